import Derived.Test.YtipefnncbnbliaaGreatE27a
import Derived.Below
import Derived.Carry
import Derived.OpenShut
import Derived.ChangeSame
import Derived.ChangeMaps5
import Derived.Test.YtipefnncbnbliaaGreatE1
set_option linter.unusedSimpArgs false
set_option linter.unusedVariables false
namespace Go.Ev
open Go
variable{E:Env}{I:Opq}
theorem b07: ∀(vs:List AV) (i:Nat) (t:TF),i+vs.length<=256-> ∀n,(pS vs i t).get n=if i<=n/\n<i+vs.length then vs.getD (n-i) .undef else t.get n
 | [],i,t,_,n=>by rw[b9 (λhh=>by grind)];rfl
 |v::r,i,t,h,n=>by
  simp at h;simp[pS];rw[b07 r (i+1) _ (by omega) n,TF.get_set t i n v (by omega)];grind
theorem UH{fn:FuncId}{O:bY}{args:List AV}{us:List Value}{nt:Nat}(ra:cj O I args us)(hl:Nat.max nt args.length<=256):
 du O I ⟨pS args 0 TF.empty,Nat.max nt args.length,[],fn,[],none⟩ {tmps:=us.toArray++Array.replicate (nt-us.toArray.size) Go.undef,defers:=[]}:=by
 have hlen:=ra.length;have hargs:args.length<=256:=n7 (Nat.le_max_right _ _) hl;refine⟨?_,hl,λt _=> ?_,rfl,λp hp=>by cases hp⟩
 .grind
 .show VR O I ((pS args 0 TF.empty).get t) _;rw[b07 args 0 TF.empty (by omega) t];have hu: ∀v:Value,v=Go.undef->VR O I .undef v:=λv hv=>by subst hv;exact⟨#[],rfl,rfl⟩
  by_cases ht:t<args.length
  .have hg:args[t]? =some args[t]:=k9 ht;obtain⟨y,hy,ry⟩:=ra.get t _ hg;simp_all[j9,Nat.sub_zero,s9,U3]
  .rw[b9 (by omega),TF.get_empty];rw[s9,Array.getElem?_append_right (by simp;omega),U8];grind
def LW(tmps:Array Value):ResultVar->Sem Value
 | .tmp t=>pure (tmps.getD t Go.undef)
 | .cell x t=>do loadVar t (<-asAddr (tmps.getD x Go.undef))
theorem c79(fn:Func)(tmps:Array Value):results fn tmps=(do
 let vs <-fn.results.mapM (LW tmps)
 pure (if h:vs.size=1 then vs[0]else .tuple vs)):=by
 rfl
theorem d02{K:Nat->Prop}{w0 w:World}{h:Heap}{O:bY}{a:Fr}{act:Act}(r:HR O I K w0 h w)(f:du O I a act): ∀{rs:List ResultVar} {vs:List AV},oY E.P a h rs=some vs->
 ∃us:List Value,cj O I vs us/\(rs.mapM (m:=Sem) (LW act.tmps)).run E.P w= .ok us w
 | [],vs,e=>by simp[oY,j0]at e;subst e;exact⟨[],.nil,rfl⟩
 |q::rs,vs,e=>by
  simp[oY]at e;split at e
  .rename_i v vs' h1 h2;simp at e;subst e;obtain⟨us,u1,u2⟩:=d02 r f h2;cases q with
   |tmp t=>
    simp[RA,j0]at h1;subst h1;refine⟨_::us,.cons (f.slot t id) u1,?_⟩;simp[M7,LW,Sem.run_bind,Sem.run_pure,Result.andThen_ok,u2]
   |cell x t=>
    simp[RA]at h1;obtain⟨u,v1,v2⟩:=Wl (P:=E.P) r h1 (f.slot x id);refine⟨u::us,.cons v1 u1,?_⟩;have hp: ∃b o,a.slot x= .ptr b o:=by
     unfold Gc at h1;split at h1
     .exact⟨_,_,by assumption⟩
     .cases h1
    obtain⟨b,o,hbo⟩:=hp;have hs:=f.slot x id;rw[hbo]at hs;obtain⟨L,_,hs⟩:=hs;rw[hs]at v2;have v3:(loadVar t ⟨L.blk,L.off+o,none⟩).run E.P w= .ok u w:=v2;simp[M7,LW,Sem.run_bind,hs,asAddr,Sem.run_pure,Result.andThen_ok,v3,u2]
  .cases e
theorem c80{K:Nat->Prop}{w0 w:World}{h:Heap}{O:bY}{a:Fr}{act:Act}(r:HR O I K w0 h w)(f:du O I a act){fn:Func}{vs:List AV}(e:oY E.P a h fn.results.toList=some vs):
 ∃u,VR O I (SY vs) u/\(results fn act.tmps).run E.P w= .ok u w:=by
 obtain⟨us,u1,u2⟩:=d02 r f e;have hrun: ∀v,(if h:us.toArray.size=1 then us.toArray[0]else Value.tuple us.toArray)=v->(results fn act.tmps).run E.P w= .ok v w:=by
  grind[c79,Sem.run_bind,Array.mapM_eq_mapM_toList,Sem.run_map,Result.andThen_ok,Sem.run_pure]
 cases vs with
 |nil=>
  rw[show us=[]from u1]at hrun;exact⟨_,⟨#[],rfl,rfl⟩,hrun _ rfl⟩
 |cons v vs=>
  obtain⟨y,ys,rfl,p,q⟩:=u1;cases vs with
  |nil=>
   rw[show ys=[]from q]at hrun;exact⟨y,p,hrun _ rfl⟩
  |cons v2 vs=>
   obtain⟨y2,ys2,rfl,p2,q2⟩:=q;refine⟨_,⟨_,rfl,.cons p (.cons p2 q2)⟩,hrun _ ?_⟩;rfl
theorem AG{F:Fence}{n:Nat}{P:Program}{fn:Func}{tmps:Array Value}{R R':Ending->World->Prop}(hr: ∀e w,R e w->R' e w): ∀{ds:List Deferred} {u:FrameMode} {w:World},LeavesInM F n P fn tmps R ds u w->LeavesInM F n P fn tmps R' ds u w
 | [],u,w,h=>by
   cases u with
   |run=>exact h
   |returning=>obtain⟨v,h1,h2⟩:=h;exact⟨v,h1,hr _ _ h2⟩
   |panicking c=>exact hr _ _ h
 |d::ds,u,w,⟨h0,h⟩=>by
  refine⟨h0,?_⟩;rcases h with⟨r,w',h1,h2,h3⟩|⟨h1,fv,cap,f,args,h2,h3,h4,h5⟩
  .exact .inl ⟨r,w',h1,h2,AG hr h3⟩
  .refine .inr ⟨h1,fv,cap,f,args,h2,h3,h4,h5.mono λe u' w' he=> ?_⟩;cases e with
   |returned v=>exact AG hr he
   |panicked c=>exact AG hr he
   |outgrown=>grind
theorem RW{R:Type}{A:Alg R}{T:R->Prop}(hA:AlgOk A T I){a:Fr}{act:Act}{h' hs:Heap}{k:AV->Heap->R}{fn:Func}{K:Nat->Prop}{w0 w':World}{ac ah:bY}(hke:T (Cf A h' k (oY E.P a h' fn.results.toList)))
 (hr':HR ac I K w0 h' w') (hf':du ac I a act) (hst':St hs ah h' ac):
 ∃v,(results fn act.tmps).run E.P w'= .ok v w'/\ ∃u am v' h'',Ending.returned v= .returned u/\T (k v' h'')/\VR am I v' u/\HR am I K w0 h'' w'/\St hs ah h'' am:=by
 cases hres:oY E.P a h' fn.results.toList with
 |none=>rw[hres]at hke;exact absurd hke hA.bad
 |some vs=>
  rw[hres]at hke;obtain⟨u,u1,u2⟩:=c80 hr' hf' hres;exact⟨u,u2,u,ac,SY vs,h',rfl,hke,u1,hr',hst'⟩
theorem c81{n:Nat}(hk:lR E I n):TN E I (n+1):=by
 intro R A T hA f args h k he K w0 O w us m r ra;have he:T (Qy E.P (ev E n) A f args h k (E.P.funcs[f]?)):=he;unfold Qy at he;split at he
 .exact absurd he hA.bad
 .rename_i fn hf;split at he
  .exact absurd he hA.bad
  .rename_i c hb;obtain⟨hlim,he⟩:Nat.ble (Nat.max fn.ntmps args.length) 256=true/\T (ev E n R A (.code c ⟨pS args 0 TF.empty,Nat.max fn.ntmps args.length,[],f,[],none⟩ h (Zz E.P A fn.results.toList k))):=by
    cases hc:Nat.ble (Nat.max fn.ntmps args.length) 256 with
    |false=>rw[hc]at he;exact absurd he hA.bad
    |true=>grind
   rw[Z5]at hlim;refine callsDIn_of_wp (F:=fL none) hf hb trivial (hk R A T hA c _ h _ he K w0 O _ w none _ r (UH ra hlim) rfl ?_);intro e a' h' ac act' w' hke _ hf' hr' hst';have fin:(e= .norm\/e= .ret)->act'.defers=[]/\ ∃v,(results fn act'.tmps).run E.P w'= .ok v w'/\ ∃u am v' h'',Ending.returned v= .returned u/\T (k v' h'')/\VR am I v' u/\HR am I K w0 h'' w'/\St h O h'' am:=by
    intro hee;have hke:T (match a'.ds with
     | []=>Cf A h' k (oY E.P a' h' fn.results.toList)
     |_=>A.bad):=by
     rcases hee with rfl|rfl<;>exact hke
    cases hds:a'.ds with
    |nil=>
     rw[hds]at hke;have hd:=hf'.defers;rw[hds]at hd;exact⟨hd,RW hA hke hr' hf' hst'⟩
    |cons x y=>rw[hds]at hke;exact absurd hke hA.bad
   cases e with
   |norm=>exact fin (.inl rfl)
   |ret=>exact fin (.inr rfl)
   |exit id=>exact absurd hke hA.bad
theorem c82(hE:E.Ok I){n:Nat}(hl:Ih E I n)(hd:TN E I n):Ih E I (n+1):=by
 intro R A T hA fn a ds h k he K w0 O act w dd r f hds;cases ds with
 |nil=>
  rw[show dd=[]from hds];obtain⟨v,h1,h2⟩:=RW hA he r f (.refl _ _);exact⟨v,h1,h2⟩
 |cons x ds=>
  obtain⟨d,dr,rfl,hx,hds⟩:=hds;refine⟨by simp,?_⟩;cases x with
  |coll b=>
   obtain⟨L,hL,rfl⟩:=hx;replace he:T (UV (ev E n) A fn.results.toList a ds b h k (h.get b)):=he;unfold UV at he;split at he
   .rename_i hg;obtain⟨hwm,he⟩:Nat.ble h.wm b=true/\T (ev E n R A (.leave fn.results.toList a ds (h.put b (some (.defd true))) k)):=by
     cases hcc:Nat.ble h.wm b with
     |false=>rw[hcc]at he;exact absurd he hA.bad
     |true=>grind
    rw[Z5]at hwm;have hobj:w.heap[L.blk]? =some (.deferred (some [])):=r.blk b _ L hg hL;obtain⟨r1,s1⟩:=r.upd b _ (.defd true) L hg hL hwm (w':=w.putObj L.blk (.deferred none)) (λi hi=>World.putObj_heap_other hi) World.putObj_size rfl rfl rfl rfl (by
     rw[World.putObj_heap_same (r.lt b L hL)];rfl)
    left;refine⟨L.blk,_,rfl,run_takeDeferred hobj,?_⟩;have:=hl R A T hA fn a ds _ k he K w0 O act _ dr r1 f hds;refine AG ?_ this;rintro e w' ⟨u,ac,v,h',h1,h2,h3,h4,h5⟩;exact⟨u,ac,v,h',h1,h2,h3,h4,s1.trans h5⟩
   .exact absurd he hA.bad
  |fn g cap args=>
   obtain⟨us,cs,rfl,ra,rc⟩:=hx;replace he:T (Qb (ev E n) A fn.results.toList a ds h k (BX E g (args++cap) h)):=he;have hs:=YB hE (f:=g) (args:=args++cap) (us:=us.toList++cs.toList) r (ra.append rc);unfold Qb at he;split at he
   .rename_i gf args' hres;rw[hres]at hs;obtain⟨vs,hrun,ra'⟩:=hs;right;refine⟨(λhh=>by cases hh),.func g,cs,gf,vs.toArray,rfl,?_,λ_ _=>trivial,?_⟩
    .have:(us.toList++cs.toList).toArray=us++cs:=by simp
     grind[invoke]
    .refine CallsDIn.mono (hd R A T hA gf args' h _ he K w0 O w vs .returning r ra') ?_;rintro e m' w' ⟨rfl,u,ac,v,h',rfl,hke,-,hr',hst'⟩;have:=hl R A T hA fn a ds h' k hke K w0 ac act w' dr hr' (f.mono (hst'.Le r)) (hds.mono (hst'.Le r));refine AG ?_ this;rintro e w' ⟨u,ac,v,h',h1,h2,h3,h4,h5⟩;exact⟨u,ac,v,h',h1,h2,h3,h4,hst'.trans h5⟩
   .exact absurd he hA.bad
theorem cr1{n:Nat}(hk:lR E I n)(hlv:Ih E I n):DZ E I (n+1):=by
 intro R A T hA f args h k he K w0 O w us r ra;have he:T (TQ E.P (ev E n) A f args h k (E.P.funcs[f]?)):=he;unfold TQ at he;split at he
 .exact absurd he hA.bad
 .rename_i fn hf;split at he
  .exact absurd he hA.bad
  .rename_i c hb;obtain⟨hlim,he⟩:Nat.ble (Nat.max fn.ntmps args.length) 256=true/\T (ev E n R A (.code c ⟨pS args 0 TF.empty,Nat.max fn.ntmps args.length,[],f,[],none⟩ h (cZ3 E.P (ev E n) A fn.results.toList k))):=by
    cases hc:Nat.ble (Nat.max fn.ntmps args.length) 256 with
    |false=>rw[hc]at he;exact absurd he hA.bad
    |true=>grind
   rw[Z5]at hlim;refine(callsIn_wide (n:=0)).1 (callsIn_of_wp_marks (F:=fL none) hf hb trivial (hk R A T hA c _ h _ he K w0 O _ w none _ r (UH ra hlim) rfl ?_));intro e a' h' ac act' w' hke _ hf' hr' hst';have fin:(e= .norm\/e= .ret)->LeavesInM Fence.wide 0 E.P fn act'.tmps (λe w'=> ∃u ac v h',e= .returned u/\T (k v h')/\VR ac I v u/\HR ac I K w0 h' w'/\St h O h' ac) act'.defers .returning w':=by
    intro hee;have hke:T (match a'.ds with
     | []=>Cf A h' k (oY E.P a' h' fn.results.toList)
     |ds=>ev E n R A (.leave fn.results.toList a' ds h' k)):=by
     rcases hee with rfl|rfl<;>exact hke
    have hd:=hf'.defers;cases hds:a'.ds with
    |nil=>
     rw[hds]at hke hd;rw[show act'.defers=[]from hd];obtain⟨v,h1,h2⟩:=RW hA hke hr' hf' hst';exact⟨v,h1,h2⟩
    |cons x y=>
     rw[hds]at hke;refine AG ?_ (hlv R A T hA fn a' _ h' k hke K w0 ac act' w' _ hr' hf' (hds▸hd));rintro e w' ⟨u,ac,v,h',h1,h2,h3,h4,h5⟩;exact⟨u,ac,v,h',h1,h2,h3,h4,hst'.trans h5⟩
   cases e with
   |norm=>exact fin (.inl rfl)
   |ret=>exact fin (.inr rfl)
   |exit id=>exact absurd hke hA.bad
end Go.Ev
namespace Go.Ev
open Go
variable{E:Env}{I:Opq}{K:Nat->Prop}{w0 w w':World}{h h':Heap}{O ac:bY}
theorem HR.later(r:HR O I K w0 h w)(hpre: ∀i,i<w.heap.size->w'.heap[i]? =w.heap[i]?)(hsz:w.heap.size<=w'.heap.size)(hos:w'.os=w.os)(htp:w'.tape=w.tape)(hout:w'.output=w.output)(hdr:w.drawn<=w'.drawn):HR O I K w0 h w':=by
 refine⟨λb x L hg hb=> ?_,r.sep,r.fresh,r.fget,λb L hb=>x6 (r.lt b L hb) hsz,r.kin,λi hi=> ?_,r.free,n7 r.size hsz,hos.trans r.os,htp.trans r.tape,hout.trans r.out,n7 r.dr hdr⟩
 .rw[hpre _ (r.lt b L hb)];exact r.blk b x L hg hb
 .rw[hpre _ (x6 (r.kin i hi) r.size)];exact r.keep i hi
theorem HR.later2(r:HR O I K w0 h w)(hpre: ∀b x L,h.get b=some x->O b=some L->w'.heap[L.blk]? =w.heap[L.blk]?)(hK: ∀i,K i->w'.heap[i]? =w.heap[i]?)(hsz:w.heap.size<=w'.heap.size)(hos:w'.os=w.os)(htp:w'.tape=w.tape)(hout:w'.output=w.output)(hdr:w.drawn<=w'.drawn):HR O I K w0 h w':=by
 refine⟨λb x L hg hb=> ?_,r.sep,r.fresh,r.fget,λb L hb=>x6 (r.lt b L hb) hsz,r.kin,λi hi=> ?_,r.free,n7 r.size hsz,hos.trans r.os,htp.trans r.tape,hout.trans r.out,n7 r.dr hdr⟩
 .rw[hpre b x L hg hb];exact r.blk b x L hg hb
 .rw[hK i hi];exact r.keep i hi
theorem HR.row(r:HR O I K w0 h w')(L:Loc)(hn: ∀b y M,h.get b=some y->O b=some M->M.blk≠L.blk)(hk: ¬K L.blk)(hlt:L.blk<w'.heap.size)(x:Blk)(hx:BR (O.add h.next L) I L w'.heap[L.blk]? x):
 HR (O.add h.next L) I K w0 (h.new x) w'/\St h O (h.new x) (O.add h.next L):=by
 have hst:St h O (h.new x) (O.add h.next L):=by
  refine⟨by simp,λb hb=> ?_,λb hb _=> ?_,rfl⟩
  .simp[bY.add];grind
  .left;rw[Heap.get_new,b9 (by omega)]
 have hle:=hst.Le r;refine⟨⟨?_,?_,?_,?_,?_,r.kin,r.keep,?_,r.size,r.os,r.tape,r.out,r.dr⟩,hst⟩
 .intro b y M hg hb;rw[Heap.get_new]at hg;simp[bY.add]at hb;by_cases e:b=h.next
  .grind
  .rw[b9 e]at hg hb;exact(r.blk b y M hg hb).mono hle
 .intro b1 b2 y1 y2 M1 M2 g1 g2 m1 m2 hne hw;rw[Heap.get_new]at g1 g2;simp[bY.add]at m1 m2;by_cases e1:b1=h.next
  .grind
  .rw[b9 e1]at g1 m1;by_cases e2:b2=h.next
   .grind
   .rw[b9 e2]at g2 m2;exact r.sep b1 b2 y1 y2 M1 M2 g1 g2 m1 m2 hne hw
 .intro b hb;simp at hb;simp[bY.add];rw[b9 (by omega)];exact r.fresh b (by omega)
 .intro b hb;simp at hb;rw[Heap.get_new,b9 (by omega)];exact r.fget b (by omega)
 .intro b M hb;simp[bY.add]at hb;split at hb
  .grind
  .exact r.lt b M hb
 .intro b y M hg hw hb;rw[Heap.get_new]at hg;simp[bY.add]at hb;by_cases e:b=h.next
  .grind
  .rw[b9 e]at hg hb;exact r.free b y M hg hw hb
theorem PG{v:AV}{u:Value}(hp:uW v=true)(r:VR O I v u):VR ac I v u:=by
 cases v<;>simp only[uW,n8]at hp<;>exact r
theorem bb6: ∀{vs:List AV} {us:List Value},vs.all uW=true->cj O I vs us->cj ac I vs us
 | [],_,_,r=>r
 |v::vs,_,hp,⟨u,ur,e,p,q⟩=>by
  simp only[List.all_cons,j7]at hp;exact⟨u,ur,e,PG hp.1 p,bb6 hp.2 q⟩
theorem Out.beq_eq: ∀{a b:Out},Out.beq a b=true->a=b
 | .plain a,.plain b,h=>by rw[AV.beq_eq a b h]
 | .row e l s c,.row e' l' s' c',h=>by
   simp[Out.beq,j7,I2]at h;grind[AV.beqs_eq]
 | .plain _,.row _ _ _ _,h=>by cases h
 | .row _ _ _ _,.plain _,h=>by cases h
theorem bb7: ∀{a b:List Out},LM a b=true->a=b
 | [],[],_=>rfl
 | [],_::_,h=>by cases h
 |_::_,[],h=>by cases h
 |a::x,b::y,h=>by
  simp[LM,j7]at h;rw[Out.beq_eq h.1,bb7 h.2]
end Go.Ev
namespace Go.Ev
open Go
variable{cs:List AV}
variable{E:Env}{I:Opq}{K:Nat->Prop}{w0 w w':World}{h h':Heap}{O ac:bY}
theorem aP2{n:Nat}{v:AV}{o:Out}(e:UR n h' v=some o):(uW v=true/\o= .plain v)\/
 (∃b len sz t cs,v= .us b 0 len sz/\n<=b/\h'.get b=some (.cells t 0 cs)/\cs.length=len*sz/\cs.all uW=true/\o= .row t len sz cs):=by
 unfold UR at e;split at e
 .rename_i b len sz;cases hb:Nat.ble n b with
  |false=>rw[hb]at e;cases e
  |true=>
   rw[hb]at e;split at e
   .rename_i t cs hg;cases hc:(Nat.beq cs.length (len*sz)&&cs.all uW)with
    |false=>rw[hc]at e;cases e
    |true=>
     rw[hc]at e;simp at e;simp only[j7,I2]at hc;exact .inr ⟨b,len,sz,t,cs,rfl,Z5.1 hb,hg,hc.1,hc.2,e.symm⟩
   .cases e
 grind
theorem aI0{am:bY}{n:Nat}: ∀{vs:List AV} {us:List Value} {l:List Out},pX n h' vs=some l->pg l=0->cj ac I vs us-> ∀h,(mq l h).2=h/\cj am I (mq l h).1 us
 | [],us,l,e,hr,r,h=>by
   simp[pX,j0]at e;subst e;exact⟨rfl,r⟩
 |v::vs,us,l,e,hr,⟨u,ur,e2,p,q⟩,h=>by
  simp[pX]at e;split at e
  .rename_i o os h1 h2;simp at e;subst e;rcases aP2 h1 with⟨hp,rfl⟩|⟨b,len,sz,t,cs,rfl,_,_,_,_,rfl⟩
   .obtain⟨g1,g2⟩:=aI0 (am:=am) h2 (by simpa[pg]using hr) q h;exact⟨g1,u,ur,e2,PG hp p,g2⟩
   grind[pg]
  .cases e
def JF(K:Nat->Prop)(hd:Heap)(O:bY)(h':Heap)(ac:bY):Prop:=
 ∀b L y,h'.get b=some y->hd.next<=b->ac b=some L->(∀b2 x M,hd.get b2=some x->O b2=some M->M.blk≠L.blk)/\ ¬K L.blk
theorem Pg{K':Nat->Prop}{w1:World}(rh:HR O I K w0 h w')(r':HR ac I K' w1 h' w')(hap:JF K h O h' ac): ∀{vs:List AV} {us:List Value} {l:List Out},
 pX h.next h' vs=some l->pg l<=1->cj ac I vs us-> ∃am,cj am I (mq l h).1 us/\HR am I K w0 (mq l h).2 w'/\St h O (mq l h).2 am
 | [],us,l,e,hr,ra=>by
   simp[pX,j0]at e;subst e;exact⟨O,ra,rh,.refl _ _⟩
 |v::vs,us,l,e,hr,⟨u,ur,e2,p,q⟩=>by
  simp[pX]at e;split at e
  .rename_i o os h1 h2;simp at e;subst e;rcases aP2 h1 with⟨hp,rfl⟩|⟨b,len,sz,t,cs,rfl,hb,hg,hl,hall,rfl⟩
   .obtain⟨am,g1,g2,g3⟩:=Pg rh r' hap h2 (by grind[pg]) q;exact⟨am,⟨u,ur,e2,PG hp p,g1⟩,g2,g3⟩
   .obtain⟨L,cap,hL,hcap,hu⟩:=p;obtain⟨ha1,ha2⟩:=hap b L _ hg hb hL;obtain⟨C,lo,hi,xs,b1,b2,b3,b4,b5,b6,b7,b8⟩:=r'.blk b _ L hg hL;have hrow:=HR.row rh L ha1 ha2 (r'.lt b L hL) (.cells t 0 cs) ⟨C,lo,hi,xs,b1,b2,b3,b4,bb6 hall b5,b6,b7,b8⟩;obtain⟨k1,k2⟩:=aI0 (am:=O.add h.next L) h2 (by simp[pg]at hr;exact hr) q (h.new (.cells t 0 cs));have hlay1:(mq (Out.row t len sz cs::os) h).1= .us h.next 0 len sz::(mq os (h.new (.cells t 0 cs))).1:=rfl
    have hlay2:(mq (Out.row t len sz cs::os) h).2=(mq os (h.new (.cells t 0 cs))).2:=rfl;refine⟨O.add h.next L,?_,?_,?_⟩
    .refine⟨u,ur,e2,⟨L,cap,?_,hcap,hu⟩,k2⟩;simp[bY.add]
    .rw[hlay2,k1];exact hrow.1
    grind
  .cases e
theorem NM{K':Nat->Prop}{w1:World}(rh:HR O I K w0 h w')(r':HR ac I K' w1 h' w')(hap:JF K h O h' ac){v:AV}{u:Value}{b:Bool}{l:List Out}
 (e:zH h.next h' v=some (b,l)) (p:VR ac I v u): ∃am,VR am I (Fe b l h).1 u/\HR am I K w0 (Fe b l h).2 w'/\St h O (Fe b l h).2 am:=by
 have one: ∀{c:Bool} {m:List Out},In c m=some (b,l)->c=b/\m=l/\pg l<=1:=by
  intro c m hh;unfold In at hh;cases hc:Nat.ble (pg m) 1 with
  |false=>grind
  |true=>
   simp_all
 unfold zH at e;split at e
 .rename_i vs;cases ho:pX h.next h' vs with
  |none=>grind
  |some m=>
   rw[ho]at e;obtain⟨rfl,rfl,h1⟩:=one e;obtain⟨xs,rfl,q⟩:=p;obtain⟨am,g1,g2,g3⟩:=Pg rh r' hap ho h1 q;exact⟨am,⟨xs,rfl,g1⟩,g2,g3⟩
 .cases ho:pX h.next h' [v]with
  |none=>grind
  |some m=>
   rw[ho]at e;obtain⟨rfl,rfl,h1⟩:=one e;obtain⟨am,g1,g2,g3⟩:=Pg (vs:=[v]) (us:=[u]) rh r' hap ho h1 ⟨u,[],rfl,p,rfl⟩;refine⟨am,?_,g2,g3⟩;obtain⟨x,xr,e2,p2⟩: ∃a as,(mq m h).1=a::as/\VR am I a u:=by
    cases hh:(mq m h).1 with
    |nil=>rw[hh]at g1;cases g1
    |cons a as=>
     rw[hh]at g1;obtain⟨y,yr,e3,p3,_⟩:=g1;cases e3;exact⟨a,as,rfl,p3⟩
   show VR am I ((mq m h).1.headD .undef) u;grind
def vC(E:Env)(I:Opq)(f:FuncId)(args:List AV)(h:Heap)(v:AV)(h':Heap):Prop:=
 ∀(K:Nat->Prop) (w0:World) (O:bY) (w:World) (us:List Value),HR O I K w0 h w->cj O I args us->
  Calls E.P f us.toArray w (λe w'=> ∃u ac,e= .returned u/\VR ac I v u/\HR ac I K w0 h' w'/\St h O h' ac)
structure HookOk (E:Env) (I:Opq):Prop where
 val: ∀(f:FuncId) (args:List AV) (h:Heap) (v:AV) (h':Heap),E.hook f args h= .val v h'->vC E I f args h v h'
 need: ∀(f:FuncId) (args:List AV) (h:Heap) (e:SX) (v:AV) (h':Heap),E.hook f args h= .need e v h'->dB I e=true->vC E I f args h v h'
theorem bI3(hn: ∀f args h,E.hook f args h= .bad):HookOk E I:=
 ⟨λf args h v h' e=>(by grind),λf args h c v h' e=>(by grind)⟩
@[simp]theorem Heap.get_raise(h:Heap)(b:Nat):h.raise.get b=h.get b:=by rfl
@[simp]theorem Heap.next_raise(h:Heap):h.raise.next=h.next:=by rfl
@[simp]theorem Heap.wm_raise(h:Heap):h.raise.wm=h.next:=by rfl
theorem HR.raise(r:HR O I K w0 h w):HR O I (· <w.heap.size) w h.raise w:=by
 refine⟨λb x L hg hb=>r.blk b x L (by simp_all) hb,λb b' x x' L L' hg hg' hb hb' hne hw=>r.sep b b' x x' L L' (by simp_all) (by simp_all) hb hb' hne (by
  rcases hw with q|q|q
  .rw[r.fresh b q]at hb;cases hb
  .rw[r.fresh b' q]at hb';cases hb'
  grind),λb hb=>r.fresh b (by simp_all),
  λb hb=>by exact r.fget b (by simp_all),r.lt,λi hi=>hi,λi _=>rfl,?_,i6 _,rfl,rfl,rfl,i6 _⟩
 intro b x L hg hw hb;rw[r.fresh b hw]at hb;cases hb
theorem Pd{n:Nat}{b:Bool}{l:List Out}{v:AV}(h1:uO n (some (b,l)) v h'=true):zH n h' v=some (b,l):=by
 simp[uO]at h1;cases hx:zH n h' v with
 |none=>rw[hx]at h1;cases h1
 |some p=>
  rw[hx]at h1;simp[dw1,j7]at h1;obtain⟨c,m⟩:=p;simp only at h1;rw[bb7 h1.2];grind
theorem bv0(r:HR O I K w0 h w)(r':HR ac I (· <w.heap.size) w h' w')(s':St h.raise O h' ac):HR O I K w0 h w'/\JF K h O h' ac:=by
 refine⟨r.later (λi hi=>r'.keep i hi) r'.size r'.os r'.tape r'.out r'.dr,λb L y hg hb hL=> ?_⟩;have hwm:h'.wm=h.next:=s'.wm
 have hge:w.heap.size<=L.blk:=by
  have:=r'.free b _ L hg (by omega) hL;omega
 refine⟨λb2 x M _ hM=> ?_,λhk=> ?_⟩
 .have:=r.lt b2 M hM;omega
 .have:=x6 (r.kin _ hk) r.size;omega
theorem WE: ∀{n:Nat} {l:List Value},l.length=n->cj O I (dF n [.any]) l
 |0,[],_=> .nil
 |n+1,v::l,h=>⟨v,l,rfl,trivial,WE (by grind)⟩
theorem bV2: ∀n:Nat,(dF n [AV.any]).all AV.oneA=true
 |0=>rfl
 |n+1=>bV2 n
theorem NS: ∀n:Nat,(dF n [AV.any]).length=n
 |0=>rfl
 |n+1=>by show(dF n [AV.any]).length+1=n+1;rw[NS n]
theorem BR.wide{L:Loc}{o:Option Obj}{e sz:Nat}(r:BR O I L o (.cells e 0 cs))(hs:cs.length+sz<=L.ext):BR O I L o (.cells e 0 (cs++dF sz [.any])):=by
 obtain⟨C,lo,hi,vs,q1,q2,q3,q4,q5,q6,q7,q8⟩:=r;have hl:=q5.length;have hlen:((C.toList.drop (L.off+cs.length)).take sz).length=sz:=by
  rw[k8,F8,Array.length_toList];omega
 refine⟨C,lo,hi,vs++(C.toList.drop (L.off+cs.length)).take sz,q1,q2,by rw[k7,NS];exact hs,by rw[E6,q4,bV2];rfl,q5.append (WE hlen),λi hi2=> ?_,q7,q8⟩;rw[k7,NS]at hi2;grind
theorem HR.capH{b e sz:Nat}{L:Loc}(r:HR O I K w0 h w)(hg:h.get b=some (.cells e 0 cs))(hL:O b=some L)(hs:cs.length+sz<=L.ext):
 HR (O.add h.next L) I (λi=>i<w.heap.size/\i≠L.blk) w (capH h b e (cs++dF sz [.any])) w:=by
 have hle:Le O (O.add h.next L):=by
  intro b' M hb;simp[bY.add];by_cases e:b'=h.next
  .subst e;rw[r.fresh _ (i6 _)]at hb;cases hb
  grind
 have eD: ∀z u,(Ev.capH h b e (cs++dF sz [.any])).get z=some u->z=h.next/\u= .cells e 0 (cs++dF sz [.any])\/z≠h.next/\z≠b/\h.get z=some u:=by
  intro z u hu;simp[Ev.capH]at hu;rw[Heap.get_new]at hu;simp at hu;by_cases hz:z=h.next
  .rw[e8 hz]at hu;split at hu
   .simp at hu;exact .inl ⟨hz,hu.symm⟩
   .cases hu
  simp_all[b9,Heap.get_put,e8]
 have ap: ∀z M,z≠h.next->(O.add h.next L) z=some M->O z=some M:=by
  simp_all[bY.add,b9]
 have aD: ∀M,(O.add h.next L) h.next=some M->M=L:=by
  grind[bY.add_self,Option.some.injEq]
 refine⟨?_,?_,?_,?_,?_,λi hi=>hi.1,λi _=>rfl,?_,i6 _,rfl,rfl,rfl,i6 _⟩
 .intro z u M hu hM;rcases eD z u hu with⟨rfl,rfl⟩|⟨h1,h2,h3⟩
  .obtain rfl:=aD _ hM;exact BR.wide ((r.blk b _ M hg hL).mono hle) hs
  .exact(r.blk z u M h3 (ap z M h1 hM)).mono hle
 .intro z1 z2 u1 u2 M1 M2 g1 g2 m1 m2 hne hw;rcases eD z1 u1 g1 with⟨rfl,rfl⟩|⟨h1,h2,h3⟩
  .obtain rfl:=aD _ m1;rcases eD z2 u2 g2 with⟨rfl,rfl⟩|⟨k1,k2,k3⟩
   .omega
   .exact r.sep b z2 _ _ M1 M2 hg k3 hL (ap z2 M2 k1 m2) (λhh=>k2 hh.symm) (.inr (.inr (.inl rfl)))
  .rcases eD z2 u2 g2 with⟨rfl,rfl⟩|⟨k1,k2,k3⟩
   .obtain rfl:=aD _ m2;exact r.sep z1 b _ _ M1 M2 h3 hg (ap z1 M1 h1 m1) hL h2 (.inr (.inr (.inr rfl)))
   .refine r.sep z1 z2 _ _ M1 M2 h3 k3 (ap z1 M1 h1 m1) (ap z2 M2 k1 m2) hne ?_;rcases hw with q|q|q
    .rw[r.fget z1 q]at h3;cases h3
    .rw[r.fget z2 q]at k3;cases k3
    grind
 .intro z hz;simp[Ev.capH,Heap.next_new,Heap.next_raise,Heap.next_put]at hz;simp[bY.add];rw[b9 (by omega)];exact r.fresh z (by omega)
 .intro z hz;simp[Ev.capH,Heap.next_new,Heap.next_raise,Heap.next_put]at hz;cases hu:(Ev.capH h b e (cs++dF sz [.any])).get z with
  |none=>rfl
  |some u=>
   rcases eD z u hu with⟨rfl,rfl⟩|⟨h1,h2,h3⟩
   .omega
   .rw[r.fget z (by omega)]at h3;cases h3
 .intro z M hM;by_cases hz:z=h.next
  .subst hz;obtain rfl:=aD _ hM;exact r.lt b M hL
  .exact r.lt z M (ap z M hz hM)
 .intro z u M hu hw hM hk;rcases eD z u hu with⟨rfl,rfl⟩|⟨h1,h2,h3⟩
  .grind
  .rw[r.fget z hw]at h3;cases h3
theorem dd7{b e sz:Nat}{L:Loc}(r:HR O I K w0 h w)(hg:h.get b=some (.cells e 0 cs))(hL:O b=some L)(hwm:h.wm<=b)
 (r':HR ac I (λi=>i<w.heap.size/\i≠L.blk) w h' w') (s':St (capH h b e (cs++dF sz [.any])) (O.add h.next L) h' ac):
 HR O I K w0 (h.put b none) w'/\JF K (h.put b none) O h' ac:=by
 have hlive: ∀z u M,(h.put b none).get z=some u->O z=some M->M.blk<w.heap.size/\M.blk≠L.blk:=by
  intro z u M hu hM;rw[Heap.get_put]at hu;by_cases hb:z=b
  .grind
  .rw[b9 hb]at hu;exact⟨r.lt z M hM,r.sep z b _ _ M L hu hg hM hL hb (.inr (.inr (.inr rfl)))⟩
 have hkl: ∀i,K i->i≠L.blk:=λi hi hh=>r.free b _ L hg hwm hL (hh▸hi)
 refine⟨HR.later2 (r.drop b).1 (λz u M hu hM=>r'.keep _ (hlive z u M hu hM)) (λi hi=>r'.keep _ ⟨x6 (r.kin i hi) r.size,hkl i hi⟩) r'.size r'.os r'.tape r'.out r'.dr,λz M u hu hz hM=> ?_⟩;have hw:h'.wm=h.next:=s'.wm
 have hf:=r'.free z u M hu (by simp_all) hM;refine⟨λz2 u2 M2 hu2 hM2 hh=> ?_,λhk=> ?_⟩
 .grind
 .exact hf ⟨x6 (r.kin _ hk) r.size,hkl _ hk⟩
theorem dd8{args:List AV}{c:Cap2}(e:Ms args h=some c): ∃(len sz e:Nat) (k:IntKind) (i:Int) (rest cs:List AV),args= .us c.b 0 len sz:: .int k i::rest/\h.get c.b=some (.cells e 0 cs)/\h.wm<=c.b/\cs.length=len*sz/\0<sz/\
 c.full= .sl c.b 0 len len:: .int k i::rest/\c.wide= .us h.next 0 len sz:: .int k i::rest/\c.h=capH h c.b e (cs++dF sz [.any]):=by
 unfold Ms at e;split at e
 .rename_i b len sz k i rest;split at e
  .rename_i el cs hg;obtain⟨hc,e⟩:=W6 e;obtain⟨hc,h4⟩:=W5 hc;obtain⟨hc,h3⟩:=W5 hc;obtain⟨h1,h2⟩:=W5 hc;rw[Z5]at h1;rw[dQ]at h4;simp at e;subst e;exact⟨len,sz,el,k,_,rest,cs,rfl,hg,h1,by simp_all,h4,rfl,rfl,rfl⟩
  .cases e
 .cases e
theorem cr3(hk:HookOk E I){n:Nat}(hb:DZ E I n):LT E I (n+1):=by
 intro R A T hA f args h k he0 K w0 O w us r ra;have hc0:T (dx6 E (ev E n) A f args h k (E.hook f args h)):=he0;have fin: ∀(v:AV) (h':Heap),T (k v h')->vC E I f args h v h'->Calls E.P f us.toArray w (λe w'=> ∃u ac v h',e= .returned u/\T (k v h')/\VR ac I v u/\HR ac I K w0 h' w'/\St h O h' ac):=by
  intro v h' ht hp;refine Calls.mono (hp K w0 O w us r ra) ?_;grind
 have old:T (bif E.amb f then Sz (ev E n) A f args h k ((ev E n) (Option (AV×Heap)) PV (.body f args h.raise QN))else
  bif E.caps f then RL (ev E n) A f args h k (Ms args h)else(ev E n) R A (.body f args h k))->Calls E.P f us.toArray w (λe w'=> ∃u ac v h',e= .returned u/\T (k v h')/\VR ac I v u/\HR ac I K w0 h' w'/\St h O h' ac):=by
  intro he;cases ham:E.amb f with
  |false=>
   rw[ham]at he;cases hcp:E.caps f with
   |false=>
    rw[hcp]at he;exact hb R A T hA f args h k he K w0 O w us r ra
   |true=>
    rw[hcp]at he;unfold RL at he;split at he
    .exact hb R A T hA f args h k he K w0 O w us r ra
    .rename_i c hc;unfold ZN at he;split at he
     .exact absurd he hA.bad
     .unfold cZ1 at he;split at he
      .exact absurd he hA.bad
      .rename_i b l hout;cases hrun:(ev E n Bool oz (.body f c.full h.raise (uO h.next (some (b,l))))&&ev E n Bool oz (.body f c.wide c.h (uO h.next (some (b,l)))))with
       |false=>rw[hrun]at he;exact absurd he hA.bad
       |true=>
        rw[hrun]at he;simp at hrun;obtain⟨run1,run2⟩:=hrun;obtain⟨len,sz,el,kk,i,rest,cs,rfl,hg,hwm,hlen,hsz,hf,hw,hch⟩:=dd8 hc;obtain⟨u0,ur,rfl,p0,p1⟩:=ra;obtain⟨L,cap,hL,hcap,rfl⟩:=p0;have hdrop:=r.drop c.b;have hext:cs.length<=L.ext:=(r.cells hg hL).choose_spec.choose_spec.choose_spec.choose_spec.2.2.1;have hlc:len<=cap:=by
         rw[hlen,<-hcap,l9]at hext;exact D6 hext hsz
        by_cases hfull:cap=len
        .subst hfull;refine Calls.mono (hb Bool oz (· =true) (UK I) f c.full h.raise _ run1 (· <w.heap.size) w O w _ r.raise (by rw[hf];exact⟨_,ur,rfl,⟨L,hL,rfl⟩,p1⟩)) ?_;rintro e w' ⟨u,ac,v,h',rfl,h1,h2,h3,h4⟩;obtain⟨g1,g2⟩:=bv0 r h3 h4;have hnx:(h.put c.b none).next=h.next:=by simp
         obtain⟨am,q1,q2,q3⟩:=NM (h:=h.put c.b none) (g1.drop c.b).1 h3 (λz M y hy hz hM=>by
          obtain⟨a1,a2⟩:=g2 z M y hy (by exact hz) hM;refine⟨λz2 x2 M2 hx2 hM2=> ?_,a2⟩;rw[Heap.get_put]at hx2;grind) (by exact Pd h1) h2
         exact⟨u,am,_,_,rfl,he,q1,q2,hdrop.2.trans q3⟩
        .have hmul:(len+1)*sz<=cap*sz:=A2 _ (by omega);have hs:cs.length+sz<=L.ext:=by grind
         have r1:=r.capH (e:=el) hg hL hs;have hle:Le O (O.add h.next L):=by
          intro b' M hb';simp[bY.add];by_cases e:b'=h.next
          .subst e;rw[r.fresh _ (i6 _)]at hb';cases hb'
          grind
         rw[hch]at run2;refine Calls.mono (hb Bool oz (· =true) (UK I) f c.wide _ _ run2 _ w _ w _ r1 (by rw[hw];exact⟨_,ur,rfl,⟨L,cap,by simp[bY.add],hcap,rfl⟩,cj.mono hle _ _ p1⟩)) ?_;rintro e w' ⟨u,ac,v,h',rfl,h1,h2,h3,h4⟩;obtain⟨g1,g2⟩:=dd7 r hg hL hwm h3 h4;have hnx:(h.put c.b none).next=h.next:=by simp
         obtain⟨am,q1,q2,q3⟩:=NM (h:=h.put c.b none) g1 h3 g2 (by exact Pd h1) h2;exact⟨u,am,_,_,rfl,he,q1,q2,hdrop.2.trans q3⟩
  |true=>
   rw[ham]at he;unfold Sz at he;split at he
   .exact absurd he hA.bad
   .unfold cZ0 at he;split at he
    .exact absurd he hA.bad
    .rename_i b l hout;cases hrun:ev E n Bool oz (.body f args h.raise (uO h.next (some (b,l))))with
     |false=>rw[hrun]at he;exact absurd he hA.bad
     |true=>
      simp[cond_true,Ut]at he;refine Calls.mono (hb Bool oz (· =true) (UK I) f args h.raise _ hrun (· <w.heap.size) w O w us r.raise ra) ?_;rintro e w' ⟨u,ac,v,h',rfl,h1,h2,h3,h4⟩;obtain⟨a1,a2⟩:=bv0 r h3 h4;obtain⟨am,g1,g2,g3⟩:=NM a1 h3 a2 (Pd h1) h2;grind
 cases hh:E.hook f args h with
 |val v h'=>rw[hh]at hc0;exact fin v h' hc0 (hk.val _ _ _ _ _ hh)
 |need e v h'=>
  rw[hh]at hc0;obtain⟨h1,h2⟩:=hA.needA _ _ hc0;exact fin v h' h2 (hk.need _ _ _ _ _ _ hh h1)
 |_=>rw[hh]at hc0;exact old hc0
theorem NB{Ω:Opq->Prop}(ao: ∀I v0 l,Ω I->Ω (I.upd v0 l))(hE: ∀I,Ω I->E.Ok I)(hk: ∀I,Ω I->HookOk E I)(hm:E.P.follows .mixedOrders=true): ∀n,∀I,Ω I->(∀m,m<=n->yo E I m)/\DZ E I n/\MP E I n/\uF E I n/\TN E I n/\Ih E I n
 |0=>by
  intro I ae;refine⟨λm hm=> ?_,?_,?_,?_,?_,?_⟩
  .obtain rfl:m=0:=by omega
   refine⟨?_,?_⟩
   .intro R A T hA f args h k he;exact absurd he hA.bad
   .intro R A T hA c a h k he;exact absurd he hA.bad
  .intro R A T hA f args h k he;exact absurd he hA.bad
  .intro R A T hA c a h k he;exact absurd he hA.bad
  .intro R A T hA ops rest i a h k _ he;exact absurd he hA.bad
  .intro R A T hA f args h k he;exact absurd he hA.bad
  .intro R A T hA fn a ds h k he;exact absurd he hA.bad
 |n+1=>by
  intro I ae;have ih:=NB ao hE hk hm n;obtain⟨hc,hb,hl,ho,hdb,hlv⟩:=ih I ae;have hcd:lR E I n:=(hc n (i6 _)).2;refine⟨λm hmn=> ?_,cr1 hcd hlv,cr0 ao ae (λaa h'=>((ih aa h').1 n (i6 _)).2) (λaa h'=>(ih aa h').2.2.2.1) hcd hl,cN5 (hE I ae) (hc n (i6 _)) ho,c81 hcd,c82 (hE I ae) hlv hdb⟩;rcases k5 m (n+1)with hlt|hge
  .grind
  .obtain rfl:m=n+1:=by omega
   exact⟨cr3 (hk I ae) hb,cq9 ao ae (hE I ae) hm hc (λaa h'=>((ih aa h').1 n (i6 _)).2) hl ho⟩
end Go.Ev
namespace Go.Ev
open Go
variable{E:Env}{I:Opq}
theorem HR.start(w:World):HR (λ_=>none) I (· <w.heap.size) w Heap.empty w:=
 ⟨λb x L _ hb=>(by cases hb),λb b' x x' L L' _ _ hb=>(by cases hb),λ_ _=>rfl,λb _=>Heap.get_empty b,λb L hb=>(by cases hb),λi hi=>hi,λi _=>rfl,
  λb x L _ _ hb=>(by cases hb),i6 _,rfl,rfl,rfl,i6 _⟩
end Go.Ev
namespace Go.Ev
open Go Go.RowKit Go.WideShapes Go.ChangeShapes
section
variable{H:Type}{enc:TypeId×Value->H}{P:Program}
theorem Yk(hl:laidOutB P=true){W W':World}{sp':Nat->Bool}: ∀{ts:List TypeId} {vs:List Value} {ds:List (DataW H)} {ps:List MemPlace},DataW.TrodAll enc P W 0 (λ_=>true) true ts vs ds ps->
 (ts.all λt=>P.readableRec t&&decide (t<P.types.size))=true->(∀p∈ps,W.sameAt W' p)->(∀p∈ps,sp' p.block=true)->DataW.TrodAll enc P W' 0 sp' true ts vs ds ps
 | [],vs,ds,ps,h,_,_,_=>by
   obtain⟨rfl,rfl,rfl⟩:=trodAll_nil h;rfl
 |t::ts,vs,ds,ps,h,hr,hs,hp=>by
  obtain⟨v,vs',d,ds',p,q,rfl,rfl,rfl,h1,h2⟩:=trodAll_cons h;simp only[List.all_cons,j7,decide_eq_true_eq]at hr;exact trodAll_cons_mk (WideElems.Trod_stays hl hr.1.1 hr.1.2 h1 (λx hx=>hs x (by simp[hx])) (λx hx=>hp x (by simp[hx])))
   (Yk hl h2 hr.2 (λx hx=>hs x (by simp[hx])) (λx hx=>hp x (by simp[hx])))
theorem cO5{f:Func}{s:ChangeSpec}{W W':World}{args:Array Value}{ds:List (DataW H)}{before:List MemPlace}{tb:TypeId}
 (hW:DataW.Whole enc P f.params.toList s.vars false W args.toList ds [] before) (hv:s.vars=[]) (hfn:s.fn H ds={results:=[.lit (.bool true)],args:=ds})
 (hl:laidOutB P=true) (hr:(f.params.toList.all λt=>P.readableRec t&&decide (t<P.types.size))=true) (hb:Below W.heap.size W W')
 (hbool:P.underlying tb=some .bool) (hres:f.resultTypes= #[tb]):s.post enc P f false true false false W args (.bool true) W':=by
 have hlt: ∀p∈before,p.block<W.heap.size:=λp hp=>hW.lt p hp
 have hWW:=hW;obtain⟨p,q,hA,hV,rfl,hz,_⟩:=hWW;rw[hv]at hV;obtain rfl:q=[]:=hV;simp at hlt hz;have hsame: ∀x∈p,W.sameAt W' x:=λx hx=>hb.same (hlt x hx)
 have hargs: ∀sp:Nat->Bool,(∀x∈p,sp x.block=true)->DataW.TrodAll enc P W' 0 sp true f.params.toList args.toList ds p:=λsp hsp=>Yk hl hA hr hsame hsp
 have hress: ∀(b:Nat) (sp:Nat->Bool) (hd:Bool),DataW.TrodAll enc P W' b sp hd f.resultTypes.toList ((Value.bool true).resultList f.resultTypes.size) [.lit (.bool true)] []:=λb sp hd=>by
  rw[hres];exact trodAll_mk1 (shut_bool hbool true)
 have hvs: ∀sp:Nat->Bool,DataW.TrodVars enc P W' sp s.vars [] []:=λsp=>by rw[hv];rfl
 have h0:s.fn H (ds++[])={results:=[.lit (.bool true)],args:=ds}:=by rw[s6];exact hfn
 refine⟨ds,[],p,[],p,[],by simpa using hW,?_,?_,?_,World.keptBut_mono (λx hx=>⟨hx,.inr (.inl hx)⟩) (hb.frame (· ∈p)),λh=>by cases h⟩
 .rw[h0];exact hress _ _ _
 .rw[h0];exact hargs _ (λx hx=>by simpa using hlt x hx)
 grind
end
def Gr:Value->Val
 | .int _ n=> .vi n
 | .string s=> .vs s.data.toList
 | .bool b=> .vb b
 |_=> .vb false
end Go.Ev
namespace Go.Ev
open Go
noncomputable section
structure LGen where
 id:Nat
 v0:Nat
 dead:List Nat
 own:List (Nat×Option Nat×Nat×List CT)
 abs:List Nat
 mem:List Nat
 fvs:List Nat
 exits:List (Ex×List (Nat×AV))
 maps:List (Nat×List CT×List CT):=[]
 gone:List Ex:=[]
 mapr:Bool:=false
 xown:List (Nat×Nat×List CT):=[]
mutual
def Qn:AV->List SX
 | .oint _ e=>[e]
 | .ostr e=>[e]
 | .obool e=>[e]
 | .osl _ x y _=>[x,y]
 | .ous _ x _=>[x]
 | .agg l=>Uk l
 | .iface _ x=>Qn x
 |_=>[]
def Uk:List AV->List SX
 | []=>[]
 |a::r=>Qn a++Uk r
end
def dz9(x:Option Blk):List SX:=match x with
 |some (.cells _ _ cs)=>Uk cs
 |some (.arr _ _ l)=>[l]
 |some (.marr _ _ _ l)=>[l]
 |some (.bag _ _ l)=>[l]
 |some (.mrg _ _ _ _ l)=>[l]
 |_=>[]
mutual
def Ol(n:Nat):AV->AV×Nat
 | .int k _=>(.oint k (.va n),n+1)
 | .oint k _=>(.oint k (.va n),n+1)
 | .str _=>(.ostr (.va n),n+1)
 | .ostr _=>(.ostr (.va n),n+1)
 | .bool _=>(.obool (.va n),n+1)
 | .obool _=>(.obool (.va n),n+1)
 | .osl b _ _ s=>(.osl b (.va n) (.va (n+1)) s,n+2)
 | .ous b _ s=>(.ous b (.va n) s,n+1)
 | .agg l=>match Pe n l with
   |(l',m)=>(.agg l',m)
 |x=>(x,n)
def Pe(n:Nat):List AV->List AV×Nat
 | []=>([],n)
 |a::r=>match Ol n a with
  |(a',m)=>match Pe m r with
   |(r',m')=>(a'::r',m')
end
def dQ8(n:Nat)(x:Option Blk):Option Blk×Nat:=match x with
 |some (.cells e fz cs)=>match Pe n cs with
  |(cs',m)=>(some (.cells e fz cs'),m)
 |some (.arr e sig _)=>(some (.arr e sig (.va n)),n+1)
 |some (.marr d ks vs _)=>(some (.marr d ks vs (.va n)),n+1)
 |x=>(x,n)
def Qu(t:Nat):List Nat->Bool
 | []=>false
 |a::r=>bif Nat.beq a t then true else Qu t r
def ZS(t:Nat):List (Nat×AV)->Option AV
 | []=>none
 |a::r=>bif Nat.beq a.1 t then some a.2 else ZS t r
def SK(look:Nat->Option AV):Nat->Nat->Nat->List (Nat×AV)×Nat
 |0,_,n=>([],n)
 |m+1,t,n=>match look t with
  |some v=>match Ol n v with
   |(v',n')=>match SK look m (t+1) n' with
    |(r,n'')=>((t,v')::r,n'')
  |none=>SK look m (t+1) n
def SH(b:Nat):List (Nat×List Nat)->Option (List Nat)
 | []=>none
 |x::r=>bif Nat.beq x.1 b then(match x.2,SH b r with
  | [],_=>some []
  |l,some []=>some []
  |l,some l'=>some (l++l')
  |l,none=>some l)else SH b r
def TY(l:List Nat):Nat->Nat->List AV->List AV×Nat
 |_,n,[]=>([],n)
 |i,n,a::r=>bif Qu i l then(match Ol n a with
  |(a',m)=>match TY l (i+1) m r with
   |(r',m')=>(a'::r',m'))
  else(match TY l (i+1) n r with
   |(r',m')=>(a::r',m'))
def dR1(l:List Nat)(n:Nat)(x:Option Blk):Option Blk×Nat:=match l,x with
 |_::_,some (.cells e fz cs)=>(match TY l 0 n cs with
  |(cs',m)=>(some (.cells e fz cs'),m))
 |_,x=>dQ8 n x
def Qq(bs:List (Nat×List Nat))(h:Heap):Nat->Nat->Nat->List (Nat×Option Blk)×Nat
 |0,_,n=>([],n)
 |m+1,b,n=>match SH b bs with
  |some l=>(match dR1 l n (h.get b)with
   |(x,n')=>match Qq bs h m (b+1) n' with
    |(r,n'')=>((b,x)::r,n''))
  |none=>Qq bs h m (b+1) n
def Uh(look:Nat->Option AV)(bs:List (Nat×List Nat))(nt:Nat)(h:Heap)(v0:Nat):StP:=match SK look nt 0 v0 with
 |(sl,n)=>match Qq bs h h.next 0 n with
  |(bl,_)=>⟨sl,bl,h.next⟩
def RU(a:Fr)(n:Nat):List (Nat×Option Nat×Nat×List CT)->List OwnP
 | []=>[]
 |(t,none,e,sig)::r=>⟨t,n,e,sig,none,false⟩::RU a (n+1) r
 |(t,some i,e,sig)::r=>(match a.slot t with
  | .ptr b o=>⟨t,n,e,sig,some (b,o+i),false⟩
  |_=>⟨t,n,e,sig,none,false⟩)::RU a (n+1) r
mutual
def uj:AV->List Nat
 | .ptr b _=>[b]
 | .osl b _ _ _=>[b]
 | .ous b _ _=>[b]
 | .map b=>[b]
 | .agg l=>Hh l
 | .func _ _ l=>Hh l
 |_=>[]
def Hh:List AV->List Nat
 | []=>[]
 |a::r=>uj a++Hh r
end
def dA1(a:Fr)(l:List Nat)(t:Nat):Option AV:=bif Qu t l then some (a.slot t)else none
def YR(a:Fr)(l:List Nat)(x:List (Nat×AV))(t:Nat):Option AV:=match ZS t x with
 |some v=>some v
 |none=>dA1 a l t
def dR2(h:Heap)(x:Option Blk):List SX:=match x with
 |some (.cells _ _ cs)=>(Hh cs).flatMap λb=>dz9 (h.get b)
 |_=>[]
def AM(h:Heap)(b:Nat):List Nat:=match h.get b with
 |some (.cells _ _ cs)=>Hh cs
 |_=>[]
def e45(h:Heap)(b:Nat):List SX:=match h.get b with
 |some (.arr _ _ l)=>[l]
 |_=>[]
def fvS(a:Fr)(h:Heap)(t:Nat):List SX:=
 bif Nat.ble 2000 t then((uj (a.slot (t-2000))).flatMap (AM h)).flatMap λb=>(AM h b).flatMap (e45 h)
 else bif Nat.ble 1000 t then(uj (a.slot (t-1000))).flatMap λb=>(AM h b).flatMap (e45 h)
 else Qn (a.slot t)++((uj (a.slot t)).flatMap λb=>dz9 (h.get b)++dR2 h (h.get b))
def Yl(a:Fr)(h:Heap):List Nat->List SX
 | []=>[]
 |t::r=>fvS a h t++Yl a h r
def Kd(l:List Nat):List (Nat×List Nat):=l.map λb=>(b,[])
def ea8(a:Fr)(h:Heap)(t:Nat):List (Nat×List Nat):=bif Nat.ble 10000 t then(uj (a.slot (t % 100))).map λb=>(b,[(t-10000)/100])
 else bif Nat.ble 1000 t then Kd ((uj (a.slot (t-1000))).flatMap (AM h))else Kd (uj (a.slot t))
def exB:Ex->Ex->Bool
 | .norm,.norm=>true
 | .exit i,.exit j=>Nat.beq i j
 | .ret,.ret=>true
 |_,_=>false
def ea9(owns:List OwnP)(b:Nat):Bool:=owns.any λo=>Nat.beq o.blk b
def dA3(g:Bool)(owns:List OwnP)(s:StP):StP:=bif g then⟨s.slots,s.blks.map λx=>bif ea9 owns x.1 then(x.1,none)else x,s.next⟩else s
def WX(n:Nat):List (Nat×Nat×List CT)->List OwnP
 | []=>[]
 |(t,e,sig)::r=>⟨t,n,e,sig,none,true⟩::WX (n+1) r
def VH:List OwnP->Heap->Heap
 | [],h=>h
 |o::r,h=>VH r (h.put o.blk (some (.arr o.elem o.sig (.op .row []))))
def slX(l:List OwnP):List (Nat×AV):=l.map λo=>(o.slot,.ous o.blk (.va 0) o.sig.length)
def dR3(g:LGen)(owns lz:List OwnP)(p:Fr×Heap)(bs:List (Nat×List Nat))(x:Ex×List (Nat×AV)):StP:=bif exB .ret x.1 then Uh (YR p.1 g.abs (x.2++slX lz)) (bs++Kd (lz.map (·.blk))) p.1.nt (VH lz p.2) g.v0 else Uh (YR p.1 g.abs x.2) bs p.1.nt p.2 g.v0
def dR4(g:LGen)(owns lz:List OwnP)(p:Fr×Heap)(bs:List (Nat×List Nat)):LSpec:=
 ⟨g.id,owns++lz,g.v0,Yl p.1 p.2 g.fvs,g.dead,Uh (dA1 p.1 g.abs) bs p.1.nt p.2 g.v0,g.exits.map λx=>(x.1,dA3 (g.gone.any (exB x.1)) owns (dR3 g owns lz p bs x)),g.mapr⟩
def TP(ks vs:List CT)(h:Heap)(b:Nat):Heap:=match h.get b with
 |some (.map [] c)=>h.put b (some (.marr (Nat.beq c 0) ks vs (.op .row [])))
 |_=>h
def d03(h:Heap):AV->Heap
 | .map b=>(match h.get b with
   |some (.marr _ ks vs l)=>h.put b (some (.marr false ks vs l))
   |_=>h)
 |_=>h
def Bl(a:Fr):List (Nat×List CT×List CT)->Heap->Heap
 | [],h=>h
 |(t,ks,vs)::r,h=>bif Nat.ble 30000 t then Bl a r (((uj (a.slot (t-30000))).flatMap (AM h)).foldl (λh b=>d03 (TP ks vs h b) (.map b)) h)else bif Nat.ble 20000 t then Bl a r (d03 h (a.slot (t-20000)))else bif Nat.ble 1000 t then Bl a r (((uj (a.slot (t-1000))).flatMap (AM h)).foldl (TP ks vs) h)else(match a.slot t with
  | .map b=>Bl a r (TP ks vs h b)
  |_=>Bl a r h)
def dR5(g:LGen)(a:Fr)(h:Heap)(owns lz:List OwnP):LSpec:=
 match iH ⟨g.id,owns++lz,g.v0,[],g.dead,⟨[],[],0⟩,[],false⟩ (eS owns a h).2 (h.upto (Nat.add h.next (Nat.add owns.length lz.length)))with
  |p=>dR4 g owns lz (p.1,Bl p.1 g.maps p.2) (Kd (owns.map (·.blk))++(g.mem.map (ea8 p.1 p.2)).flatten)
def dp(g:LGen)(a:Fr)(h:Heap):LSpec:=dR5 g a h (RU a h.next g.own) (WX (Nat.add h.next g.own.length) g.xown)
mutual
def gY:AV->List AV
 | .agg cs=>cs
 | .tup vs=>rU vs
 |v=>[v]
def rU:List AV->List AV
 | []=>[]
 |a::r=>gY a++rU r
end
inductive BSrc where
 |whole (b:Nat)
 |view (v:AV)
 deriving Inhabited
structure FC where
 args:List AV
 blks:List Blk
 mt:Nat
 need:SX
 out:AV
 post:List (Option Blk)
 outs:List SX
mutual
def ky(es:List SX):SX->SX
 | .va n=>es.getD n (.va n)
 | .op p l=> .op p (DN es l)
 | .app f l=> .app f (DN es l)
 |x=>x
def DN(es:List SX):List SX->List SX
 | []=>[]
 |a::r=>ky es a::DN es r
end
def Kv(sz:Nat)(sig:List CT)(n:Nat)(cs:List AV):Option (SX×SX):=match mN sig sz n cs with
 |some rs=>some (.cb true,.op .row rs)
 |none=>none
def Gy(sz elem:Nat)(sig:List CT)(x:AV)(h:Heap):Option (SX×SX):=match x with
 | .nils=>some (.cb true,.op .row [])
 | .ous b len s=>match h.get b with
   |some (.arr e sg l)=>bif Nat.beq s sz&&Nat.beq e elem&&gj sg sig then(bif SX.beq len (.op .llen [l])then some (.cb true,l)else some (.op .and [.op (.cmp .leq) [.ci 0,len],.op (.cmp .leq) [len,.op .llen [l]]],.op .lsub [l,.ci 0,len]))else none
   |_=>none
 | .osl b off len s=>match h.get b with
   |some (.arr e sg l)=>bif Nat.beq s sz&&Nat.beq e elem&&gj sg sig then(bif SX.beq off (.ci 0)&&SX.beq len (.op .llen [l])then some (.cb true,l)else some (.op .and [.op (.cmp .leq) [.ci 0,off],.op .and [.op (.cmp .leq) [.ci 0,len],.op (.cmp .leq) [.op .iadd [off,len],.op .llen [l]]]],.op .lsub [l,off,.op .iadd [off,len]]))else none
   |_=>none
 | .sl b o n c=>match h.get b with
   |some (.cells e fz cs)=>bif Nat.beq e elem&&Nat.ble n c&&Nat.ble fz o&&Nat.ble (o+n*sz) cs.length&&Nat.blt 0 n then Kv sz sig n ((cs.drop o).take (n*sz))else none
   |_=>none
 | .us b o n s=>match h.get b with
   |some (.cells e fz cs)=>bif Nat.blt 0 sz&&Nat.beq s sz&&Nat.beq e elem&&Nat.ble fz o&&Nat.ble (o+n*sz) cs.length then Kv sz sig n ((cs.drop o).take (n*sz))else none
   |_=>none
 |_=>none
def Kc(elem:Nat)(x:Option Blk):Nat:=match x with
 |some (.arr e _ _)=>e
 |some (.cells e _ _)=>e
 |_=>elem
def dR6(x:AV)(h:Heap)(elem:Nat):Nat:=match x with
 | .ous b _ _=>Kc elem (h.get b)
 | .osl b _ _ _=>Kc elem (h.get b)
 | .sl b _ _ _=>Kc elem (h.get b)
 | .us b _ _ _=>Kc elem (h.get b)
 |_=>elem
def d04(x:AV)(h:Heap)(elem:Nat):Nat:=bif Nat.beq elem iD then dR6 x h elem else elem
def BC(sz elem:Nat)(sig:List CT)(x:AV)(h:Heap):Option (SX×SX):=Gy sz (d04 x h elem) sig x h
structure Bnd where
 src:List (Nat×BSrc)
 sx:List (Nat×SX)
def Ro{α:Type}(i:Nat):List (Nat×α)->Bool
 | []=>false
 |a::r=>bif Nat.beq a.1 i then true else Ro i r
def Bnd.addS(B:Bnd)(i:Nat)(s:BSrc):Bnd:=bif Ro i B.src then B else⟨(i,s)::B.src,B.sx⟩
def Jw{α:Type}(i:Nat):List (Nat×α)->Option α
 | []=>none
 |a::r=>bif Nat.beq a.1 i then some a.2 else Jw i r
def Bnd.addG(B:Bnd)(j:Nat)(x:SX):Bnd:=match Jw j B.sx with
 |none=>(match x with
  | .op .lget [.app f l,.ci (.ofNat 0),_]=>⟨B.src,(j,.app f l)::B.sx⟩
  | .op .lget [.va n,.ci (.ofNat 0),_]=>⟨B.src,(j,.va n)::B.sx⟩
  |x=>⟨B.src,(j,.op .row [.op .row [x]])::B.sx⟩)
 |some (.op .row [.op .row l])=>⟨B.src,(j,.op .row [.op .row (l++[x])])::B.sx⟩
 |some _=>B
def Bnd.addX(B:Bnd)(p x:SX):Bnd:=match p with
 | .va j=>bif Ro j B.sx then B else⟨B.src,(j,x)::B.sx⟩
 | .op .lget [.va j,_,_]=>B.addG j x
 |_=>B
def Bnd.addO(B:Bnd)(p:SX)(x:Option SX):Bnd:=match x with
 |some x=>B.addX p x
 |none=>B
def yL(p q:SX):Bool:=match p,q with
 | .ci 0,.op .llen _=>true
 |_,_=>false
mutual
def Wj(B:Bnd):AV->AV->Bnd
 | .oint _ p,x=>B.addO p ((jn x).map (·.2))
 | .ostr p,x=>B.addO p (lE x)
 | .obool p,x=>B.addO p (lY x)
 | .agg ps,.agg xs=>wG B ps xs
 | .iface _ p,.iface _ x=>Wj B p x
 | .func _ a b,.func _ c d=>wG (wG B a c) b d
 | .ptr i _,.ptr b _=>B.addS i (.whole b)
 | .map i,.map b=>B.addS i (.whole b)
 | .sl i _ _ _,.sl b _ _ _=>B.addS i (.whole b)
 | .osl i p q _,x=>bif yL p q then B.addS i (.view x)else(match x with
   | .osl b p' q' _=>((B.addS i (.whole b)).addX p p').addX q q'
   |_=>B)
 | .ous i q _,.ous b q' _=>(B.addS i (.whole b)).addX q q'
 |_,_=>B
def wG(B:Bnd):List AV->List AV->Bnd
 | [],_=>B
 |_::_,[]=>B
 |p::ps,x::xs=>wG (Wj B p x) ps xs
end
def dR8(h:Heap)(B:Bnd)(p:Blk)(s:Option BSrc):Bnd:=match s with
 |some (.whole b)=>(match p,h.get b with
  | .cells _ _ ps,some (.cells _ _ xs)=>wG B ps xs
  | .arr _ _ q,some (.arr _ _ l)=>B.addX q l
  | .bag _ _ q,some (.bag _ _ l)=>B.addX q l
  | .marr _ _ _ q,some (.marr _ _ _ l)=>B.addX q l
  | .marr _ _ _ q,some (.map [] _)=>B.addX q (.op .row [])
  |_,_=>B)
 |some (.view v)=>(match p with
  | .arr e sig q=>(match BC sig.length e sig v h with
    |some (_,l)=>B.addX q l
    |none=>B)
  |_=>B)
 |none=>B
def KL(h:Heap)(B:Bnd):List Blk->Nat->Bnd
 | [],_=>B
 |p::r,i=>KL h (dR8 h B p (Jw i B.src)) r (i+1)
def Bo{α:Type}(l:List (Nat×α)):Nat->Nat->Option (List α)
 |0,_=>some []
 |n+1,i=>match Jw i l,Bo l n (i+1)with
  |some x,some r=>some (x::r)
  |_,_=>none
def uD:AV->Bool
 | .bool _| .int _ _| .str _| .nilp| .glob _| .nils| .nilm| .nilf| .nili=>true
 |_=>false
def xh(s:Option BSrc)(b:Nat):Bool:=match s with
 |some (.whole c)=>Nat.beq c b
 |_=>false
def TT(s:Option BSrc)(x:AV):Bool:=match s with
 |some (.view v)=>AV.beq v x
 |_=>false
def UI(e:SX):SX:=match e with
 | .op .lget [.op .row [.op .row l],.ci (.ofNat 0),.ci (.ofNat k)]=>(match l[k]? with
   |some x=>x
   |none=>e)
 |e=>e
def Dy(es:List SX)(p x:SX):Bool:=SX.beq (UI (ky es p)) x
def IP(es:List SX)(p:SX)(x:Option SX):Bool:=match x with
 |some x=>Dy es p x
 |none=>false
def Th(es:List SX)(k:IntKind)(p:SX)(x:Option (IntKind×SX)):Bool:=match x with
 |some (k',x)=>decide (k=k')&&Dy es p x
 |none=>false
def Hg(blks:List Blk)(i s:Nat)(q:SX):Bool:=match blks[i]? with
 |some (.arr _ sig l)=>Nat.beq sig.length s&&SX.beq q (.op .llen [l])
 |_=>false
def Ox(src:List BSrc)(es:List SX)(i:Nat)(p q:SX)(s:Nat)(x:AV):Bool:=match x with
 | .osl b p' q' s'=>Nat.beq s s'&&xh src[i]? b&&Dy es p p'&&Dy es q q'
 |_=>false
def Qe(src:List BSrc)(es:List SX)(i:Nat)(q:SX)(s:Nat)(x:AV):Bool:=match x with
 | .ous b q' s'=>Nat.beq s s'&&xh src[i]? b&&SX.beq (ky es q) q'
 |_=>false
def Tr(src:List BSrc)(i o:Nat)(x:AV):Bool:=match x with
 | .ptr b o'=>Nat.beq o o'&&xh src[i]? b
 |_=>false
def Pa(src:List BSrc)(i:Nat)(x:AV):Bool:=match x with
 | .map b=>xh src[i]? b
 |_=>false
def Qk(src:List BSrc)(i o n c:Nat)(x:AV):Bool:=match x with
 | .sl b o' n' c'=>Nat.beq o o'&&Nat.beq n n'&&Nat.beq c c'&&xh src[i]? b
 |_=>false
mutual
def fy(src:List BSrc)(es:List SX)(blks:List Blk):AV->AV->Bool
 | .oint k p,x=>Th es k p (jn x)
 | .ostr p,x=>IP es p (lE x)
 | .obool p,x=>IP es p (lY x)
 | .agg ps,x=>(match x with
   | .agg xs=>si src es blks ps xs
   |_=>false)
 | .iface t p,x=>(match x with
   | .iface u y=>Nat.beq t u&&fy src es blks p y
   |_=>false)
 | .func f a b,x=>(match x with
   | .func g c d=>decide (f=g)&&si src es blks a c&&si src es blks b d
   |_=>false)
 | .ptr i o,x=>Tr src i o x
 | .map i,x=>Pa src i x
 | .sl i o n c,x=>Qk src i o n c x
 | .osl i p q s,x=>bif yL p q then Hg blks i s q&&TT src[i]? x else Ox src es i p q s x
 | .ous i q s,x=>Qe src es i q s x
 |p,x=>uD p&&AV.beq p x
def si(src:List BSrc)(es:List SX)(blks:List Blk):List AV->List AV->Bool
 | [],xs=>(match xs with
   | []=>true
   |_=>false)
 |p::ps,xs=>(match xs with
  |x::xs=>fy src es blks p x&&si src es blks ps xs
  |_=>false)
end
def sI(src:List BSrc)(es:List SX)(blks:List Blk)(h:Heap)(p:Blk)(s:BSrc):Option SX:=match s with
 | .whole b=>(match p,h.get b with
   | .cells e fz ps,some (.cells e' fz' xs)=>bif Nat.beq e e'&&Nat.beq fz fz'&&ps.all AV.oneA&&si src es blks ps xs then some (.cb true)else none
   | .arr e sig q,some (.arr e' sig' l)=>bif Nat.beq e e'&&gj sig sig'&&SX.beq (ky es q) l then some (.cb true)else none
   | .bag e sig q,some (.bag e' sig' l)=>bif Nat.beq e e'&&gj sig sig'&&SX.beq (ky es q) l then some (.cb true)else none
   | .marr d ks vs q,some (.marr d' ks' vs' l)=>bif (!d||d')&&gj ks ks'&&gj vs vs'&&SX.beq (ky es q) l then some (.cb true)else none
   | .marr d _ _ q,some (.map [] c)=>bif (!d||Nat.beq c 0)&&SX.beq (ky es q) (.op .row [])then some (.cb true)else none
   |_,_=>none)
 | .view v=>(match p with
   | .arr e sig q=>(match BC sig.length e sig v h with
     |some (nd,l)=>bif SX.beq (ky es q) l then some nd else none
     |none=>none)
   |_=>none)
def Ht(src:List BSrc)(es:List SX)(blks:List Blk)(h:Heap):List Blk->List BSrc->Option SX
 | [],[]=>some (.cb true)
 |p::ps,s::ss=>match sI src es blks h p s,Ht src es blks h ps ss with
  |some a,some b=>some (gZ a b)
  |_,_=>none
 |_,_=>none
def kh:BSrc->Option Nat
 | .whole b=>some b
 | .view (.ous b _ _)=>some b
 | .view (.osl b _ _ _)=>some b
 | .view (.sl b _ _ _)=>some b
 | .view (.us b _ _ _)=>some b
 | .view _=>none
def neB(a b:Option Nat):Bool:=match a,b with
 |some x,some y=> !(Nat.beq x y)
 |_,_=>true
def Ze(p:Option Blk):Bool:=match p with
 |some (.arr _ _ _)=>true
 |_=>false
def dA8(p:Option Blk):Bool:=match p with
 |some (.arr _ _ _)=>true
 |some (.bag _ _ _)=>true
 |_=>false
def eb0(p:Option Blk):Bool:=match p with
 |some (.arr _ _ _)=>true
 |some (.bag _ _ _)=>true
 |some (.vec _)=>true
 |_=>false
def Tm(h:Heap)(b:Option Nat):Bool:=match b with
 |some b=>eb0 (h.get b)
 |none=>false
def RF(n:Nat)(b:Option Nat):Bool:=match b with
 |some b=>Nat.ble n b
 |none=>true
def EG(blks:List Blk)(mt:Nat)(h:Heap)(i j:Nat)(a b:Option Nat):Bool:=
 (Nat.blt i mt&&Nat.blt j mt&&Ze blks[i]? &&Ze blks[j]?)||(neB a b&&(RF h.wm a||RF h.wm b|| !(Tm h a)|| !(Tm h b)))
def KZ(blks:List Blk)(mt:Nat)(h:Heap)(i:Nat)(s:BSrc):List BSrc->Nat->Bool
 | [],_=>true
 |t::r,j=>EG blks mt h i j (kh s) (kh t)&&KZ blks mt h i s r (j+1)
def seps(blks:List Blk)(mt:Nat)(h:Heap):List BSrc->Nat->Bool
 | [],_=>true
 |s::r,i=>KZ blks mt h i s r (i+1)&&seps blks mt h r (i+1)
def As(b:Nat):List AV->Bool
 | []=>false
 |x::r=>(match x with
  | .ptr c _=>Nat.beq c b
  | .map c=>Nat.beq c b
  |_=>false)||As b r
def Tk(h:Heap)(b c:Nat):Bool:=match h.get c with
 |some (.cells _ _ cs)=>As b cs
 |_=>false
def Mk(args:List AV)(h:Heap)(b:Nat):List BSrc->Bool
 | []=>false
 |s::r=>(match s with
  | .whole c=>As c args&&Tk h b c
  | .view _=>false)||Mk args h b r
def Vm(x:Option (Option Blk)):Bool:=match x with
 |some none=>true
 |_=>false
def Gg(mt:Nat)(args:List AV)(h:Heap)(all:List BSrc)(post:List (Option Blk)):List BSrc->Nat->Bool
 | [],_=>true
 |s::r,i=>(Nat.blt i mt||(match s with
  | .whole b=>Nat.ble h.wm b&&Nat.blt b h.next&&(Vm post[i-mt]? ||As b args||Mk args h b all||dA8 (h.get b))
  | .view _=>false))&&Gg mt args h all post r (i+1)
def nE(e:SX):Bool:=(wk 1000 e).isSome||fA 0 e
def kz(src:List BSrc)(i:Nat):Bool:=match src[i]? with
 |some (.whole _)=>true
 |_=>false
def qt(src:List BSrc)(mt:Nat)(post:List (Option Blk))(p:AV):Bool:=match p with
 | .oint _ e=>nE e
 | .ostr e=>nE e
 | .obool e=>nE e
 | .osl i x y _=>kz src i&&nE x&&nE y
 | .ous i x s=>bif Nat.ble src.length i then(match x,post[i-mt]? with
  | .op .llen [q],some (some (.arr _ sig q'))=>SX.beq q q'&&Nat.beq sig.length s
  |_,_=>false)else kz src i&&(wk 1000 x).isSome
 | .ptr i _=>kz src i
 |p=>uD p
def AN(n:Nat)(p:AV):Bool:=match p with
 | .ous i _ _=>Nat.blt i n
 |_=>true
def Hk(src:List BSrc)(mt:Nat)(post:List (Option Blk))(x:Option Blk):Bool:=match x with
 |none=>true
 |some (.cells _ _ ps)=>ps.all λp=>qt src mt post p&&AN src.length p&&p.oneA
 |some (.arr _ _ q)=>nE q
 |some (.marr _ _ _ q)=>nE q
 |_=>false
def AX(x:Option Blk):Bool:=match x with
 |some (.arr _ _ q)=>nE q
 |_=>false
def zB(src:List BSrc)(mt:Nat)(post:List (Option Blk)):List (Option Blk)->Nat->Bool
 | [],i=>Nat.ble src.length i
 |x::r,i=>bif Nat.blt i src.length then Hk src mt post x&&zB src mt post r (i+1)else AX x&&zB src mt post r (i+1)
structure Binding where
 src:List BSrc
 es:List SX
 nd:SX
def rM(c:FC)(nv:Nat):Bool:=oj nv c.blks.length c.args&&c.blks.all (λx=>zY nv c.blks.length (some x))&&fA nv c.need&&qp nv c.outs&&Nat.ble c.mt c.blks.length&&Nat.blt c.blks.length 60000&&c.blks.all (λx=>match x with
 | .cells _ _ _=>true
 | .arr _ _ _=>true
 | .bag _ _ _=>true
 | .marr _ _ _ _=>true
 |_=>false)
def df1(c:FC)(args:List AV)(h:Heap):Bnd:=
 KL h (wG ⟨(KL h ⟨(KL h (wG ⟨[],[]⟩ c.args args) c.blks 0).src,[]⟩ c.blks 0).src,[]⟩ c.args args) c.blks 0
def AL(c:FC)(nv:Nat)(args:List AV)(h:Heap):Option Binding:=
 match df1 c args h with
 |B=>match Bo B.src c.blks.length 0,Bo B.sx nv 0 with
  |some src,some es=>bif si src es c.blks c.args args&&seps c.blks c.mt h src 0&&Gg c.mt args h src c.post src 0&&zB src c.mt c.post c.post c.mt&&(gY c.out).all (qt src c.mt c.post)then(match Ht src es c.blks h c.blks src with
   |some nd=>some ⟨src,es,nd⟩
   |none=>none)else none
  |_,_=>none
def sW(es outs:List SX)(k:Nat):SX:=ky es (outs.getD k (.cb false))
def ft(src:List BSrc)(n:Nat)(i:Nat):Nat:=match src[i]? with
 |some (.whole b)=>b
 |some (.view _)=>n
 |none=>n+(i-src.length)
mutual
def iC(ρ:Nat->Nat):AV->AV
 | .ptr b o=> .ptr (ρ b) o
 | .sl b o n c=> .sl (ρ b) o n c
 | .us b o n s=> .us (ρ b) o n s
 | .es b o s=> .es (ρ b) o s
 | .map b=> .map (ρ b)
 | .func fn a c=> .func fn (oC ρ a) (oC ρ c)
 | .yield b=> .yield (ρ b)
 | .iface t v=> .iface t (iC ρ v)
 | .agg l=> .agg (oC ρ l)
 | .tup l=> .tup (oC ρ l)
 | .osl b x y s=> .osl (ρ b) x y s
 | .optr b x j s=> .optr (ρ b) x j s
 | .ous b x s=> .ous (ρ b) x s
 |x=>x
def oC(ρ:Nat->Nat):List AV->List AV
 | []=>[]
 |a::r=>iC ρ a::oC ρ r
end
def nT(ρ:Nat->Nat):Option Blk->Option Blk
 |some (.cells e fz cs)=>some (.cells e fz (oC ρ cs))
 |some (.arr e sig l)=>some (.arr e sig l)
 |some (.marr d ks vs l)=>some (.marr d ks vs l)
 |_=>none
mutual
def iL(q:Nat->SX):AV->AV
 | .oint k e=>oA k (ed 1000 q e)
 | .ostr e=> .ostr (ed 1000 q e)
 | .obool e=> .obool (ed 1000 q e)
 | .agg l=> .agg (sy q l)
 | .tup l=> .tup (sy q l)
 | .osl b x y s=> .osl b (ed 1000 q x) (ed 1000 q y) s
 | .ous b x s=> .ous b (Ma q x) s
 |x=>x
def sy(q:Nat->SX):List AV->List AV
 | []=>[]
 |a::r=>iL q a::sy q r
def Ma(q:Nat->SX):SX->SX
 | .op .llen [x]=> .op .llen [ed 1000 q x]
 |x=>ed 1000 q x
end
def nw(q:Nat->SX):Option Blk->Option Blk
 |some (.cells e fz cs)=>some (.cells e fz (sy q cs))
 |some (.arr e sig l)=>some (.arr e sig (ed 1000 q l))
 |some (.marr d ks vs l)=>some (.marr d ks vs (ed 1000 q l))
 |x=>x
def mQ(ρ:Nat->Nat)(q:Nat->SX)(m:Nat):List (Option Blk)->Nat->Heap->Heap
 | [],_,h=>h
 |x::r,i,h=>mQ ρ q m r (i+1) (bif Nat.blt i m then h.put (ρ i) (nT ρ (nw q x))else(match nT ρ (nw q x)with
  |some y=>h.new y
  |none=>h))
def Ic(e:SX)(v:AV)(h:Heap):Res:=match e with
 | .cb true=> .val v h
 |e=> .need e v h
def wI(c:FC)(b:Binding)(h:Heap):Res:=
 Ic (gZ b.nd (ky b.es c.need)) (iC (ft b.src h.next) (iL (sW b.es c.outs) c.out)) (mQ (ft b.src h.next) (sW b.es c.outs) c.blks.length c.post c.mt h)
def Qo(x:AV)(h:Heap):Option (SX×AV×Heap):=match x with
 | .ous b len s=>(match h.get b with
   |some (.arr e sig l)=>bif Nat.ble h.wm b&& !(SX.beq len (.op .llen [l]))&&Nat.beq s sig.length then
    some (.op .and [.op (.cmp .leq) [.ci 0,len],.op (.cmp .leq) [len,.op .llen [l]]],.ous b (.op .llen [.op .lsub [l,.ci 0,len]]) s,h.put b (some (.arr e sig (.op .lsub [l,.ci 0,len]))))else none
   |_=>none)
 |_=>none
def rL:List AV->Heap->SX×List AV×Heap
 | [],h=>(.cb true,[],h)
 |x::r,h=>match Qo x h with
  |some (e,x',h')=>(match rL r h' with
   |(e',r',h2)=>(gZ e e',x'::r',h2))
  |none=>(match rL r h with
   |(e',r',h2)=>(e',x::r',h2))
def Cp(nd:SX)(r:Res):Res:=match r with
 | .val v h=>Ic nd v h
 | .need e v h=> .need (gZ nd e) v h
 |_=> .bad
def FG(c:FC)(nv:Nat)(args:List AV)(h:Heap):Res:=match AL c nv args h with
 |some b=>wI c b h
 |none=> .bad
def jQ(c:FC)(nv:Nat)(args:List AV)(h:Heap):Res:=match AL c nv args h with
 |some b=>wI c b h
 |none=>(match rL args h with
  |(nd,args',h')=>Cp nd (FG c nv args' h'))
mutual
def jd:AV->AV->Bool
 | .tup a,x=>(match x with
   | .tup b=>oQ a b
   |_=>false)
 | .agg a,x=>(match x with
   | .agg b=>Nat.beq a.length b.length
   |_=>false)
 |_,x=>(match x with
  | .tup _=>false
  | .agg _=>false
  |_=>true)
def oQ:List AV->List AV->Bool
 | [],x=>(match x with
   | []=>true
   |_=>false)
 |a::r,x=>(match x with
  |b::q=>jd a b&&oQ r q
  | []=>false)
end
def dS2(post:List (Option Blk))(k:Nat):Option (Nat×List CT):=match post[k]? with
 |some (some (.arr e sig _))=>some (e,sig)
 |_=>none
def uB(post:List (Option Blk))(mt m base:Nat):List AV->Nat->List OwnP
 | [],_=>[]
 | .ous i _ _::r,t=>bif Nat.ble m i then(match dS2 post (i-mt)with
   |some (e,sig)=>⟨t,base+(i-m),e,sig,none,false⟩::uB post mt m base r (t+1)
   |none=>uB post mt m base r (t+1))else uB post mt m base r (t+1)
 |_::r,t=>uB post mt m base r (t+1)
def YF(h:Heap)(b s:Nat)(x:AV):Bool:=match x,h.get b with
 | .ous c (.op .llen [l]) s',some (.arr _ _ l')=>Nat.beq b c&&Nat.beq s s'&&SX.beq l l'
 |_,_=>false
def On(m base n:Nat)(h:Heap)(p x:AV):Option (List SX):=match p with
 | .ous i q s=>bif Nat.ble m i then(bif YF h (base+(i-m)) s x then some []else none)else cF 1000 base n (.ous i q s) x
 |p=>cF 1000 base n p x
def KY(m base:Nat)(h:Heap)(a:Fr):List AV->Nat->Nat->Option (List SX)
 | [],_,_=>some []
 |p::ps,t,n=>match On m base n h p (a.slot t)with
  |some e=>match KY m base h a ps (t+1) (n+e.length)with
   |some es=>some (e++es)
   |none=>none
  |none=>none
def MD(m base:Nat)(h:Heap):List (Option Blk)->Nat->Nat->Option (List SX)
 | [],_,_=>some []
 |p::ps,i,n=>match sh 1000 base n p (h.get (bif Nat.blt i m then i else base+(i-m)))with
  |some e=>match MD m base h ps (i+1) (n+e.length)with
   |some es=>some (e++es)
   |none=>none
  |none=>none
def Nk(pc:PC):List SX->List SX
 | []=>[]
 |e::r=>KF pc 16 e::Nk pc r
def YN(c:FC)(m base:Nat)(p:Fr×Heap)(pc:PC):VT:=match KY m base p.2 p.1 (gY c.out) 0 0 with
 |some es=>match MD m base p.2 c.post c.mt es.length with
  |some fs=> .ret 0 (Nk pc (es++fs))
  |none=> .bad
 |none=> .bad
def e49(c:FC)(m base:Nat)(owns:List OwnP)(xs:List AV)(h:Heap)(pc:PC):VT:=
 match AK owns ⟨pS xs 0 TF.empty,xs.length,[],0,[],none⟩ (h.upto (Nat.add base owns.length))with
 |some p=>YN c m base p pc
 |none=> .bad
def Ba(h:Heap)(x:AV):SX×AV:=match x with
 | .ous r len s=>match h.get r with
   |some (.arr _ _ l)=>bif SX.beq len (.op .llen [l])then(.cb true,x)else(.op (.cmp .eql) [len,.op .llen [l]],.ous r (.op .llen [l]) s)
   |_=>(.cb true,x)
 |x=>(.cb true,x)
def yw(h:Heap):List AV->SX×List AV
 | []=>(.cb true,[])
 |a::r=>match Ba h a,yw h r with
  |(e,x),(e',xs)=>(gZ e e',x::xs)
def OE(c:FC)(h:Heap)(p:SX×List AV):ib:=kG.need p.1 (e49 c c.blks.length h.next (uB c.post c.mt c.blks.length h.next (gY c.out) 0) p.2 h)
def eb1(l:SX):Bool:=match l with
 | .op .lcat _=>true
 |_=>false
def WN(h:Heap)(x:AV):Bool:=match x with
 | .ous b len _=>(match h.get b with
   |some (.arr _ _ l)=>eb1 l&& !(SX.beq len (.op .llen [l]))
   |_=>false)
 |_=>false
def eb2(c:FC)(p:SX×List AV×Heap):ib:=kG.need p.1 (OE c p.2.2 (yw p.2.2 p.2.1))
def Pm(c:FC)(l:List AV)(h:Heap):ib:=bif l.any (WN h)then eb2 c (rL l h)else OE c h (yw h l)
def pG(c:FC)(v:AV)(h:Heap):ib:=
 bif jd c.out v&&Nat.ble (gY v).length 256 then Pm c (gY v) h else λ_=> .bad
def ic:List Blk->Heap->Heap
 | [],h=>h
 |x::r,h=>ic r (h.new x)
def dB1(wm:Nat)(t:TH)(next _:Nat):Heap:=⟨t,next,wm⟩
def Heap.setwm(h:Heap)(wm:Nat):Heap:=Heap.rec (dB1 wm) h
def FC.heap(c:FC):Heap:=(ic c.blks Heap.empty).setwm c.mt
def FC.run(E:Env)(fuel:Nat)(f:FuncId)(c:FC)(args:List AV):VT:=ev E fuel ib kG (.body f args c.heap (pG c)) []
end
end Go.Ev
