import Derived.Test.YtbfbcanipfnfeaaE27a
set_option linter.unusedVariables false
set_option linter.unusedSimpArgs false
namespace Go.Ev
open Go
variable{E:Env}{ω:Opq}
theorem bo7{Ω:Opq→Prop}(hΩ: ∀ω v0 l,Ω ω→Ω (ω.upd v0 l))(hω:Ω ω){n:Nat}(hk: ∀ω',Ω ω'→ao6 E ω' n)(hops: ∀ω',Ω ω'→cs1 E ω' n){R:Type}{A:Alg R}{T:R→Prop}(hA:AlgOk A T ω){c:Code}{a:Fr}{h:Heap}{k:Ex→Fr→Heap→R}{sp:LSpec}
 (he:T (bk5 (ev E n) A c a h k sp)) {K:Nat→Prop} {w0:World} {β:Bij} {act:Act} {w:World} {Q:Exit→Act→World→Prop} {ro:Option Nat} (r:HR β ω K w0 h w) (f:FrR β ω a act) (hR:RoR β a.ro ro) (q:KOk T ω K w0 h β a.ro k Q):ag7 (Fen ro) E.P c Q act w:=by
 obtain⟨hpl,hnd,he⟩:aa1 a=true∧dB ω (R6 sp.owns a h).1=true∧T (bk4 (ev E n) A c h.next k sp (aR8 sp (R6 sp.owns a h).2 (h.upto (Nat.add h.next sp.owns.length)))):=by
  unfold bk5 at he
  cases hp:aa1 a with
  |false=>rw[hp]at he;exact absurd he hA.bad
  |true=>rw[hp]at he;exact⟨rfl,hA.needA _ _ he⟩
 obtain⟨_,hro⟩:=a62 hpl
 rw[hro]at hR q
 obtain rfl:ro=none:=hR
 obtain⟨f,-⟩:=f.norms hnd
 generalize (R6 sp.owns a h).2=a at he f
 obtain⟨β',cv⟩:=b27 (sp:=sp) f (r.upto (n:=Nat.add h.next sp.owns.length) (t7 _ _))
 unfold bk4 at he
 cases hmp:sp.mapr with
 |true=>
  rw[hmp]at he
  simp only[cond_true]at he
  have ho:=c19 hA he
  refine cj9 hΩ hω hk hops hA rfl he cv.hr cv.fr ⟨?_,fun b hb=>cv.bij b ?_,fun b hb hn=> ?_,?_⟩ q
  ·show h.next≤_
   rw[cv.next,Heap.next_upto];exact t7 _ _
  ·rintro⟨o,hm,rfl⟩
   have:=ho o hm;omega
  ·rcases cv.get b with e|e|⟨o,hm,rfl⟩|e
   ·exact .inl (e.trans (Heap.get_upto _ _ _))
   ·exact .inr (.inl e)
   ·have:=ho o hm;omega
   ·exact absurd hn e
  ·rw[cv.wm,Heap.wm_upto]
 |false=>
 rw[hmp]at he
 simp only[cond_false]at he
 have ho: ∀o∈sp.owns,h.next≤o.blk:=by
  intro o hm
  have he':=he
  unfold aZ8 at he'
  cases hok:bS7 sp (aR8 sp a (h.upto (Nat.add h.next sp.owns.length))).1 (aR8 sp a (h.upto (Nat.add h.next sp.owns.length))).2 h.next with
  |false=>rw[hok]at he';exact absurd he' hA.bad
  |true=>
   unfold bS7 at hok
   obtain⟨hok,_⟩:=M6 hok
   obtain⟨hok,_⟩:=M6 hok
   obtain⟨hok,_⟩:=M6 hok
   obtain⟨hok,_⟩:=M6 hok
   obtain⟨hok,_⟩:=M6 hok
   obtain⟨o0,_⟩:=M6 hok
   rw[i6]at o0
   exact N1.1 (o0 o hm)
 refine(cj4 hΩ hω hk hA rfl he cv.hr cv.fr ⟨?_,fun b hb=>cv.bij b ?_,fun b hb hn=> ?_,?_⟩ q)
 ·show h.next≤_
  rw[cv.next,Heap.next_upto];exact t7 _ _
 ·rintro⟨o,hm,rfl⟩
  have:=ho o hm;omega
 ·rcases cv.get b with e|e|⟨o,hm,rfl⟩|e
  ·exact .inl (e.trans (Heap.get_upto _ _ _))
  ·exact .inr (.inl e)
  ·have:=ho o hm;omega
  ·exact absurd hn e
 ·rw[cv.wm,Heap.wm_upto]
theorem DsR.append{as:List ADef}{ds:List Deferred}: ∀{bs:List ADef} {es:List Deferred} {β:Bij},DsR β ω bs es→DsR β ω as ds→DsR β ω (bs++as) (es++ds)
 | [],es,β,h,q=>by rw[show es=[]from h];exact q
 |b::bs,es,β,⟨d,dr,e,h1,h2⟩,q=>by rw[e];exact⟨d,dr++ds,rfl,h1,DsR.append h2 q⟩
theorem FrP.markL{β:Bij}{X:Nat→Prop}{a:Fr}{act:Act}(f:FrP β ω X a act){m:List ADef}{d:List Deferred}(h:DsR β ω m d):FrP β ω X (a.mark m) {act with defers:=d++act.defers}:=
 ⟨by simpa using f.size,by simpa using f.lim,fun t ht=>by simpa using f.slot t ht,by rw[Fr.mark_ds];exact h.append f.defers,fun p hp=>f.pcs p (by simpa using hp)⟩
theorem c20{K:Nat→Prop}{w0 w:World}{h h1:Heap}{β:Bij}{a:Fr}{ro:Option Nat}{d:Nat}{m:List ADef}(r:HR β ω K w0 h w)(hR:RoR β a.ro ro)(e:b96 h a.ro=some (d,h1,m)):
 ∃(w1:World) (β1:Bij) (Ld:Loc) (dm:List Deferred),HR β1 ω K w0 h1 w1∧St h β h1 β1∧β1 d=some Ld∧DsR β1 ω m dm∧
  ∀fn tmps ps assign body,(Instr.enterLoop fn tmps ps assign body ro).run E.P w= .ok (w1.heap.size,dm) (w1.alloc (.loop {state:= .ready,pending:=none,fn,tmps,params:=ps,assign,body,defers:=Ld.blk})):=by
 cases hro:a.ro with
 |none=>
  rw[hro]at e hR
  obtain rfl:ro=none:=hR
  simp only[b96,a8,d7]at e
  obtain⟨rfl,rfl,rfl⟩:=e
  obtain⟨r1,s1⟩:=r.new (.deferred (some [])) (.defd false) 0 0 rfl
  refine⟨_,_,_,[{target:= .collected w.heap.size,args:= #[]}],r1,s1,Bij.add_self _ _ _,⟨_,_,rfl,⟨_,Bij.add_self _ _ _,rfl⟩,rfl⟩,fun fn tmps ps assign body=> ?_⟩
  rw[run_enterLoop_outer,World.size_alloc]
 |some l=>
  rw[hro]at e hR
  obtain⟨L,hL,rfl⟩:=hR
  simp only[b96]at e
  split at e
  ·rename_i st pend fn0 tm nt ps0 as b d0 hg
   simp only[a8,d7]at e
   obtain⟨rfl,rfl,rfl⟩:=e
   obtain⟨tmps0,f',Ld,g1,g2,g3⟩:=r.blk l _ L hg hL
   refine⟨w,β,Ld,[],r,.refl _ _,g2,rfl,fun fn tmps ps assign body=> ?_⟩
   unfold Instr.enterLoop
   simp only[Sem.run_bind,run_getLoop g1,run_newObj_alloc,Result.andThen,Sem.run_pure]
  ·cases e
theorem ck0{R:Type}{A:Alg R}{T:R→Prop}(hA:AlgOk A T ω)(hE:E.Ok ω){n:Nat}(hc:cC4 E ω n)(hk1:ao6 E ω n){g:Operand}{ps:Array Tmp}{assign body:Code}{a:Fr}{h:Heap}{k:Ex→Fr→Heap→R}
 (he:T (bT4 E (ev E n) A ps assign body a k (b96 h a.ro) (a.ev g))) {K:Nat→Prop} {w0:World} {β:Bij} {act:Act} {w:World} {ro:Option Nat} {Q:Exit→Act→World→Prop} (r:HR β ω K w0 h w) (f:FrR β ω a act) (hR:RoR β a.ro ro)
 (q:KOk T ω K w0 h β a.ro k Q):(Code.rangeFunc g ps assign body).wpIn (Fen ro) 0 E.P Q act w:=by
 unfold bT4 at he
 split at he
 ·rename_i d h1 m har
  split at he
  ·rename_i fv hfv
   obtain⟨w1,β1,Ld,dm,r1,s1,hd,hdm,hent⟩:=c20 (E:=E) r hR har
   refine wpIn_rangeFunc ?_
   intro fn _
   have hadd':Le β1 (β1.add h1.next ⟨w1.heap.size,0,0⟩):=by
    intro b M hb
    simp only[Bij.add]
    rw[if_neg]
    ·exact hb
    ·intro hh
     rw[r1.fresh b (Nat.le_of_eq hh.symm)]at hb
     cases hb
   have hadd: ∀M,β1 d=some M→(β1.add h1.next ⟨w1.heap.size,0,0⟩) d=some M:=fun M hM=>hadd' d M hM
   obtain⟨r2,s2⟩:=r1.new (.loop {state:= .ready,pending:=none,fn:=fn,tmps:=act.tmps,params:=ps,assign:=assign,body:=body,defers:=Ld.blk}) (.loop .ready none a.fn a.tm a.nt ps assign body d) 0 0
    ⟨act.tmps,fn,Ld,rfl,hadd _ hd,f.size,f.lim,fun t=>VR.mono hadd' _ _ ((f.mono (s1.Le r)).slot t id)⟩
   have s12:=s1.trans s2
   have hle:=s12.Le r
   have hcv:=aV4 hE (args:=[.yield h1.next]) (us:=[.func (.yield w1.heap.size) #[] #[]]) r2 (VR.mono hle _ _ (f.opR g _ hfv)) ⟨_,_,rfl,⟨_,Bij.add_self _ _ _,rfl⟩,rfl⟩
   unfold bT3 at he
   split at he
   ·rename_i gf args hres
    rw[hres]at hcv
    obtain⟨us',hrun,ra'⟩:=hcv
    rw[Sem.run_bind]at hrun
    cases hdd:(Deferred.ofValue (act.eval g) ([.func (.yield w1.heap.size) #[] #[]]:List Value).toArray).run E.P (w1.alloc (.loop {state:= .ready,pending:=none,fn:=fn,tmps:=act.tmps,params:=ps,assign:=assign,body:=body,defers:=Ld.blk}))with
    |halt x w'=>rw[hdd]at hrun;cases hrun
    |ok dd w1'=>
     rw[hdd,Result.andThen_ok]at hrun
     refine⟨w1.heap.size,dm,_,dd,w1',gf,us'.toArray,_,hent fn act.tmps ps assign body,?_,fun _ _=>trivial,hrun,(fun hh=>by cases hh),bx9.2 (Calls.mono (hc R A T hA gf args _ _ he K w0 _ _ us' r2 ra') ?_)⟩
     ·have:(#[Operand.const (.func (.yield w1.heap.size) #[] #[])]:Array Operand).map act.eval=([.func (.yield w1.heap.size) #[] #[]]:List Value).toArray:=by simp[Act.eval]
      show(Deferred.ofValue (act.eval g) ((#[Operand.const (.func (.yield w1.heap.size) #[] #[])]:Array Operand).map act.eval)).run E.P _=_
      rw[this];exact hdd
     ·rintro e w' ⟨u,β',v,h',rfl,hke,-,hr',hst'⟩
      unfold cq7 at hke
      split at hke
      ·rename_i st pend fn2 tm2 nt2 ps2 as2 b2 d2 hg
       obtain⟨hwm,hke⟩:Nat.ble h'.wm h1.next=true∧T (cT8 (ev E n) A (a.mark m) k (h'.put h1.next (some (.loop .exhausted pend fn2 tm2 nt2 ps2 as2 b2 d2))) pend st):=by
        cases hcc:Nat.ble h'.wm h1.next with
        |false=>rw[hcc]at hke;exact absurd hke hA.bad
        |true=>rw[hcc]at hke;exact⟨rfl,hke⟩
       rw[N1]at hwm
       have hL:β' h1.next=some ⟨w1.heap.size,0,0⟩:=by
        rw[hst'.ext _ (by simp)]
        exact Bij.add_self _ _ _
       obtain⟨f',tmps',Ld',z1,z2,z3,z4⟩:=hr'.loopAt hg hL hwm
       obtain⟨y1,y2⟩:=z4 .exhausted pend
       have hst:st≠ .busy:=by
        rintro rfl
        exact absurd hke hA.bad
       have hend:=run_endLoop (P:=E.P) z1 hst
       have s3:=(s12.trans hst').trans y2
       have hf:=(f.mono (s3.Le r)).markL (hdm.mono ((s2.trans (hst'.trans y2)).Le r1))
       have hke:T (cd8 (ev E n) A (a.mark m) k (h'.put h1.next (some (.loop .exhausted pend fn2 tm2 nt2 ps2 as2 b2 d2))) pend):=by
        cases st with
        |busy=>exact absurd rfl hst
        |_=>exact hke
       refine⟨pend,_,hend,?_⟩
       cases pend with
       |none=>exact q .norm (a.mark m) _ β' _ _ hke (Fr.mark_ro _ _) hf y1 s3
       |some c=>exact hk1 R A T hA c (a.mark m) _ k hke K w0 β' _ _ ro Q y1 hf (by rw[Fr.mark_ro];exact hR.mono (s3.Le r)) (by rw[Fr.mark_ro];exact q.later s3)
      ·exact absurd hke hA.bad
   ·exact absurd he hA.bad
  ·exact absurd he hA.bad
 ·exact absurd he hA.bad
theorem c21{Ω:Opq→Prop}(hΩ: ∀ω v0 l,Ω ω→Ω (ω.upd v0 l))(hω:Ω ω)(hE:E.Ok ω)(hm:E.P.follows .mixedOrders=true){n:Nat}(hc: ∀m,m≤n→GoS E ω m)(hk2: ∀ω',Ω ω'→ao6 E ω' n)(hl:cj1 E ω n)(ho:cs1 E ω n):ao6 E ω (n+1):=by
 intro R A T hA c a h k he K w0 β act w ro Q r f hR q
 have hk1:ao6 E ω n:=hk2 ω hω
 have he:T (cq8 E (ev E n) A c a h k):=he
 cases c with
 |skip=>exact wpIn_skip (q .norm a h β act w he rfl f r (.refl _ _))
 |label l=>exact wpIn_label (q .norm a h β act w he rfl f r (.refl _ _))
 |ret=>exact wpIn_ret (q .ret a h β act w he rfl f r (.refl _ _))
 |exit id=>exact wpIn_exit (q (.exit id) a h β act w he rfl f r (.refl _ _))
 |rangeFunc g ps assign body=>exact ck0 hA hE (hc n (b9 _)).1 hk1 he r f hR q
 |seq x y=>
  refine wpIn_seq (hk1 R A T hA x a h _ he K w0 β act w ro _ r f hR ?_)
  intro e a' h' β' act' w' hke hro hf hr hst
  cases e with
  |norm=>exact hk1 R A T hA y a' h' k hke K w0 β' act' w' ro Q hr hf (by rw[hro];exact hR.mono (hst.Le r)) (by rw[hro];exact q.later hst)
  |exit id=>exact q (.exit id) a' h' β' act' w' hke hro hf hr hst
  |ret=>exact q .ret a' h' β' act' w' hke hro hf hr hst
 |cond c x y=>
  have he:T (cy4 (ev E n) A x y a h k (a.ev c)):=he
  have go: ∀(b:Bool) (a':Fr),a'.ro=a.ro→FrR β ω a' act→act.eval c= .bool b→T (ev E n R A (.code (bif b then x else y) a' h k))→(Code.cond c x y).wpIn (Fen ro) 0 E.P Q act w:=by
   intro b a' hro f' hv he'
   refine wpIn_cond hv ?_
   have:=hk1 R A T hA _ a' h k he' K w0 β act w ro Q r f' (by rw[hro];exact hR) (by rw[hro];exact q)
   cases b<;>exact this
  unfold cy4 at he
  split at he
  ·rename_i b hb
   have hv:=f.opR c _ hb
   simp only[VR]at hv
   exact go b a rfl f hv he
  ·rename_i e hb
   have hv:=f.opR c _ hb
   simp only[VR]at hv
   unfold bS6 at he
   split at he
   ·rename_i b hp
    exact go b a rfl f (by rw[hv,aK9 f.pcs hp]) he
   ·obtain⟨h1,h2⟩:=hA.ite _ _ _ he
    cases hd:dB ω e with
    |true=>exact go true _ (Fr.cond_ro _ _) (f.cond hd) (by rw[hv,hd]) (h1 hd)
    |false=>exact go false _ (Fr.cond_ro _ _) (f.cond hd) (by rw[hv,hd]) (h2 hd)
  ·exact absurd he hA.bad
 |block id b=>
  refine wpIn_block (hk1 R A T hA b a h _ he K w0 β act w ro _ r f hR ?_)
  intro e a' h' β' act' w' hke hro hf hr hst
  cases e with
  |norm=>exact q .norm a' h' β' act' w' hke hro hf hr hst
  |ret=>exact q .ret a' h' β' act' w' hke hro hf hr hst
  |exit i=>
   simp only[bv7]at hke
   show if i=id then _ else _
   by_cases hi:i=id
   ·rw[if_pos hi]
    rw[M8.2 hi]at hke
    exact q .norm a' h' β' act' w' hke hro hf hr hst
   ·rw[if_neg hi]
    rw[bl0 hi]at hke
    exact q (.exit i) a' h' β' act' w' hke hro hf hr hst
 |loop b=>
  exact c11 (hl R A T hA b a h k he K w0 β act w ro Q r f hR q)
 |scope b=>
  refine bK0 (hk1 R A T hA b a h k he K w0 β act w ro _ r f hR ?_)
  intro e a' h' β' act' w' hke hro hf hr hst
  cases e<;>exact q _ a' h' β' act' w' hke hro hf hr hst
 |region id ops draw=>
  have he:T (bT2 (ev E n) A ops.toList draw a h k):=he
  cases draw with
  |false=>
   refine wpIn_region ?_
   have:=ho R A T hA ops ops.toList 0 a h (bS5 a.ro k) rfl he K w0 β act w ro Q r f hR (fun a' h' β' act' w' g1 g2 g3 g4=>q .norm _ h' β' act' w' g1 (Fr.back_ro _ _) (g2.back _) g3 g4)
   rw[E3]
   simpa using this
  |true=>
   have he:T (cT7 (ev E n) A ops.toList a h k (cS0 ops.toList)):=he
   cases hp:cS0 ops.toList with
   |none=>rw[hp]at he;exact absurd he hA.bad
   |some rr=>
    rw[hp]at he
    obtain⟨l,pk⟩:=cC2 hp
    refine wpIn_region_any hm ?_
    have hno: ∀i,¬Lis (Array.replicate ops.size false) i:=by
     intro i hi
     unfold Lis at hi
     simp[k7,Array.getElem?_replicate]at hi
     split at hi<;>simp at hi
    refine cC6 hA (hs:=h) (βs:=β) hE pk (N:=n) (fun m hmn=>hc m (by omega)) (k:=bS5 a.ro k) (fun a' h' β' act' w' g1 g2 g3 g4=>q .norm _ h' β' act' w' g1 (Fr.back_ro _ _) (g2.back _) g3 g4)
      ops.size n 0 rr [] a h (fun _=>0) _ β act _ (b9 _) he ?_ ?_
    ·refine⟨r.drew,.refl _ _,by simp,fun x _ hx=>absurd hx (hno _),fun x _ hx=>absurd hx (hno _),fun x _ hx=>by simp at hx,pk.eager,pk.rl,fun x hx _=>pk.lr x hx,?_,fun x _ hx=>by simp at hx,fun x _ y _ hx=>by simp at hx⟩
     exact f.weaken fun _ hh=>hh.elim
    ·unfold left
     refine m7 (List.length_filter_le _ _) (by simp)
 |_=>exact absurd he hA.bad
theorem c22{Ω:Opq→Prop}(hΩ: ∀ω v0 l,Ω ω→Ω (ω.upd v0 l))(hω:Ω ω){n:Nat}(hk2: ∀ω',Ω ω'→ao6 E ω' n)(hops: ∀ω',Ω ω'→cs1 E ω' n)(hk1:ao6 E ω n)(hl:cj1 E ω n):cj1 E ω (n+1):=by
 intro R A T hA c a h k he K w0 β act w ro Q r f hR q
 have he:T (cT6 (ev E n) A c a h k (E.lspec a.fn (ac6 c) a h)):=he
 cases hsp:E.lspec a.fn (ac6 c) a h with
 |some sp=>
  rw[hsp]at he
  exact bo7 hΩ hω hk2 hops hA he r f hR q
 |none=>
  rw[hsp]at he
  refine a95 (hk1 R A T hA c a h _ he K w0 β act w ro _ r f hR ?_)
  intro e a' h' β' act' w' hke hro hf hr hst
  cases e with
  |norm=>exact hl R A T hA c a' h' k hke K w0 β' act' w' ro Q hr hf (by rw[hro];exact hR.mono (hst.Le r)) (by rw[hro];exact q.later hst)
  |exit id=>exact q (.exit id) a' h' β' act' w' hke hro hf hr hst
  |ret=>exact q .ret a' h' β' act' w' hke hro hf hr hst
end Go.Ev
