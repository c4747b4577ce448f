import Derived.Test.YtbfbcanipfnfeaaE27
set_option linter.unusedVariables false
set_option linter.unusedSimpArgs false
namespace Go.Ev
open Go
variable{E:Env}{ω:Opq}
theorem aM4: ∀(vs:List AV) (i:Nat) (t:TF),i+vs.length≤256→ ∀n,(a68 vs i t).get n=if i≤n∧n<i+vs.length then vs.getD (n-i) .undef else t.get n
 | [],i,t,_,n=>by rw[if_neg (fun hh=>by simp at hh;omega)];rfl
 |v::r,i,t,h,n=>by
  simp only[List.length_cons]at h
  simp only[a68]
  rw[aM4 r (i+1) _ (by omega) n,TF.get_set t i n v (by omega)]
  simp only[List.length_cons]
  by_cases h1:n=i
  ·subst h1
   rw[if_neg (fun hh=>absurd hh.1 (by omega)),if_pos rfl,if_pos ⟨b9 _,by omega⟩]
   simp
  ·by_cases h2:i+1≤n∧n<i+1+r.length
   ·rw[if_pos h2,if_pos (by omega)]
    obtain⟨k,rfl⟩: ∃k,n=i+1+k:=⟨n-(i+1),by omega⟩
    rw[show i+1+k-(i+1)=k by omega,show i+1+k-i=k+1 by omega]
    simp
   ·rw[if_neg h2,if_neg h1,if_neg (by omega)]
theorem b33{fn:FuncId}{β:Bij}{args:List AV}{us:List Value}{nt:Nat}(ra:VRs β ω args us)(hl:Nat.max nt args.length≤256):
 FrR β ω ⟨a68 args 0 TF.empty,Nat.max nt args.length,[],fn,[],none⟩ {tmps:=us.toArray++Array.replicate (nt-us.toArray.size) Go.undef,defers:=[]}:=by
 have hlen:=ra.length
 have hargs:args.length≤256:=m7 (Nat.le_max_right _ _) hl
 refine⟨?_,hl,fun t _=> ?_,rfl,fun p hp=>by cases hp⟩
 ·simp only[G3,w6,J9,hlen]
  rw[show Nat.max nt args.length=max nt args.length from rfl]
  omega
 ·show VR β ω ((a68 args 0 TF.empty).get t) _
  rw[aM4 args 0 TF.empty (by omega) t]
  have hu: ∀v:Value,v=Go.undef→VR β ω .undef v:=fun v hv=>by subst hv;exact⟨#[],rfl,rfl⟩
  by_cases ht:t<args.length
  ·rw[if_pos (by omega)]
   have hg:args[t]? =some args[t]:=j0 ht
   obtain⟨y,hy,ry⟩:=ra.get t _ hg
   rw[d9,Nat.sub_zero,hg,k7,D8 (by simp;omega)]
   simp[hy]
   exact ry
  ·rw[if_neg (by omega),TF.get_empty]
   refine hu _ ?_
   rw[k7,Array.getElem?_append_right (by simp;omega),Array.getElem?_replicate]
   split<;>rfl
def d47(tmps:Array Value):ResultVar→Sem Value
 | .tmp t=>pure (tmps.getD t Go.undef)
 | .cell x t=>do loadVar t (←asAddr (tmps.getD x Go.undef))
theorem bK2(fn:Func)(tmps:Array Value):results fn tmps=(do
 let vs ←fn.results.mapM (d47 tmps)
 pure (if h:vs.size=1 then vs[0]else .tuple vs)):=by
 unfold results
 congr 1
theorem cs4{K:Nat→Prop}{w0 w:World}{h:Heap}{β:Bij}{a:Fr}{act:Act}(r:HR β ω K w0 h w)(f:FrR β ω a act): ∀{rs:List ResultVar} {vs:List AV},aB2 E.P a h rs=some vs→
 ∃us:List Value,VRs β ω vs us∧(rs.mapM (m:=Sem) (d47 act.tmps)).run E.P w= .ok us w
 | [],vs,e=>by simp only[aB2,a8]at e;subst e;exact⟨[],.nil,rfl⟩
 |q::rs,vs,e=>by
  simp only[aB2]at e
  split at e
  ·rename_i v vs' h1 h2
   simp only[a8]at e;subst e
   obtain⟨us,u1,u2⟩:=cs4 r f h2
   cases q with
   |tmp t=>
    simp only[d82,a8]at h1;subst h1
    refine⟨_::us,.cons (f.slot t id) u1,?_⟩
    simp only[C3,d47,Sem.run_bind,Sem.run_pure,Result.andThen_ok,u2]
   |cell x t=>
    simp only[d82]at h1
    obtain⟨u,v1,v2⟩:=bv8 (P:=E.P) r h1 (f.slot x id)
    refine⟨u::us,.cons v1 u1,?_⟩
    have hp: ∃b o,a.slot x= .ptr b o:=by
     unfold bN7 at h1
     split at h1
     ·exact⟨_,_,by assumption⟩
     ·cases h1
    obtain⟨b,o,hbo⟩:=hp
    have hs:=f.slot x id
    rw[hbo]at hs
    simp only[VR]at hs
    obtain⟨L,_,hs⟩:=hs
    rw[hs]at v2
    have v3:(loadVar t ⟨L.blk,L.off+o,none⟩).run E.P w= .ok u w:=v2
    simp only[C3,d47,Sem.run_bind,hs,asAddr,Sem.run_pure,Result.andThen_ok,v3,u2]
  ·cases e
theorem bK3{K:Nat→Prop}{w0 w:World}{h:Heap}{β:Bij}{a:Fr}{act:Act}(r:HR β ω K w0 h w)(f:FrR β ω a act){fn:Func}{vs:List AV}(e:aB2 E.P a h fn.results.toList=some vs):
 ∃u,VR β ω (cy3 vs) u∧(results fn act.tmps).run E.P w= .ok u w:=by
 obtain⟨us,u1,u2⟩:=cs4 r f e
 have hrun: ∀v,(if h:us.toArray.size=1 then us.toArray[0]else Value.tuple us.toArray)=v→(results fn act.tmps).run E.P w= .ok v w:=by
  intro v hv
  rw[bK2,Sem.run_bind,Array.mapM_eq_mapM_toList,Sem.run_map,u2]
  simp only[Result.andThen_ok,Sem.run_pure,hv]
 cases vs with
 |nil=>
  rw[show us=[]from u1]at hrun
  exact⟨_,⟨#[],rfl,rfl⟩,hrun _ rfl⟩
 |cons v vs=>
  obtain⟨y,ys,rfl,p,q⟩:=u1
  cases vs with
  |nil=>
   rw[show ys=[]from q]at hrun
   exact⟨y,p,hrun _ rfl⟩
  |cons v2 vs=>
   obtain⟨y2,ys2,rfl,p2,q2⟩:=q
   refine⟨_,⟨_,rfl,.cons p (.cons p2 q2)⟩,hrun _ ?_⟩
   rw[dif_neg (by simp)]
theorem V8{F:Fence}{n:Nat}{P:Program}{fn:Func}{tmps:Array Value}{R R':Ending→World→Prop}(hr: ∀e w,R e w→R' e w): ∀{ds:List Deferred} {u:FrameMode} {w:World},LeavesInM F n P fn tmps R ds u w→LeavesInM F n P fn tmps R' ds u w
 | [],u,w,h=>by
   cases u with
   |run=>exact h
   |returning=>obtain⟨v,h1,h2⟩:=h;exact⟨v,h1,hr _ _ h2⟩
   |panicking c=>exact hr _ _ h
 |d::ds,u,w,⟨h0,h⟩=>by
  refine⟨h0,?_⟩
  rcases h with⟨r,w',h1,h2,h3⟩|⟨h1,fv,cap,f,args,h2,h3,h4,h5⟩
  ·exact .inl ⟨r,w',h1,h2,V8 hr h3⟩
  ·refine .inr ⟨h1,fv,cap,f,args,h2,h3,h4,h5.mono fun e u' w' he=> ?_⟩
   cases e with
   |returned v=>exact V8 hr he
   |panicked c=>exact V8 hr he
   |outgrown=>exact hr _ _ he
theorem aM5{R:Type}{A:Alg R}{T:R→Prop}(hA:AlgOk A T ω){a:Fr}{act:Act}{h' hs:Heap}{k:AV→Heap→R}{fn:Func}{K:Nat→Prop}{w0 w':World}{β' βs:Bij}(hke:T (cO2 A h' k (aB2 E.P a h' fn.results.toList)))
 (hr':HR β' ω K w0 h' w') (hf':FrR β' ω a act) (hst':St hs βs h' β'):
 ∃v,(results fn act.tmps).run E.P w'= .ok v w'∧ ∃u β'' v' h'',Ending.returned v= .returned u∧T (k v' h'')∧VR β'' ω v' u∧HR β'' ω K w0 h'' w'∧St hs βs h'' β'':=by
 cases hres:aB2 E.P a h' fn.results.toList with
 |none=>rw[hres]at hke;exact absurd hke hA.bad
 |some vs=>
  rw[hres]at hke
  obtain⟨u,u1,u2⟩:=bK3 hr' hf' hres
  exact⟨u,u2,u,β',cy3 vs,h',rfl,hke,u1,hr',hst'⟩
theorem bK4{n:Nat}(hk:ao6 E ω n):c12 E ω (n+1):=by
 intro R A T hA f args h k he K w0 β w us m r ra
 have he:T (cz0 E.P (ev E n) A f args h k (E.P.funcs[f]?)):=he
 unfold cz0 at he
 split at he
 ·exact absurd he hA.bad
 ·rename_i fn hf
  split at he
  ·exact absurd he hA.bad
  ·rename_i c hb
   obtain⟨hlim,he⟩:Nat.ble (Nat.max fn.ntmps args.length) 256=true∧T (ev E n R A (.code c ⟨a68 args 0 TF.empty,Nat.max fn.ntmps args.length,[],f,[],none⟩ h (bU0 E.P A fn.results.toList k))):=by
    cases hc:Nat.ble (Nat.max fn.ntmps args.length) 256 with
    |false=>rw[hc]at he;exact absurd he hA.bad
    |true=>rw[hc]at he;exact⟨rfl,he⟩
   rw[N1]at hlim
   refine callsDIn_of_wp (F:=Fen none) hf hb trivial (hk R A T hA c _ h _ he K w0 β _ w none _ r (b33 ra hlim) rfl ?_)
   intro e a' h' β' act' w' hke _ hf' hr' hst'
   have fin:(e= .norm∨e= .ret)→act'.defers=[]∧ ∃v,(results fn act'.tmps).run E.P w'= .ok v w'∧ ∃u β'' v' h'',Ending.returned v= .returned u∧T (k v' h'')∧VR β'' ω v' u∧HR β'' ω K w0 h'' w'∧St h β h'' β'':=by
    intro hee
    have hke:T (match a'.ds with
     | []=>cO2 A h' k (aB2 E.P a' h' fn.results.toList)
     |_=>A.bad):=by
     rcases hee with rfl|rfl<;>exact hke
    cases hds:a'.ds with
    |nil=>
     rw[hds]at hke
     have hd:=hf'.defers
     rw[hds]at hd
     exact⟨hd,aM5 hA hke hr' hf' hst'⟩
    |cons x y=>rw[hds]at hke;exact absurd hke hA.bad
   cases e with
   |norm=>exact fin (.inl rfl)
   |ret=>exact fin (.inr rfl)
   |exit id=>exact absurd hke hA.bad
theorem bK5(hE:E.Ok ω){n:Nat}(hl:bz2 E ω n)(hd:c12 E ω n):bz2 E ω (n+1):=by
 intro R A T hA fn a ds h k he K w0 β act w dd r f hds
 have he:T (bU1 E (ev E n) A fn.results.toList a ds h k):=he
 cases ds with
 |nil=>
  rw[show dd=[]from hds]
  obtain⟨v,h1,h2⟩:=aM5 hA he r f (.refl _ _)
  exact⟨v,h1,h2⟩
 |cons x ds=>
  obtain⟨d,dr,rfl,hx,hds⟩:=hds
  refine⟨by simp,?_⟩
  cases x with
  |coll b=>
   obtain⟨L,hL,rfl⟩:=hx
   replace he:T (cz1 (ev E n) A fn.results.toList a ds b h k (h.get b)):=he
   unfold cz1 at he
   split at he
   ·rename_i hg
    obtain⟨hwm,he⟩:Nat.ble h.wm b=true∧T (ev E n R A (.leave fn.results.toList a ds (h.put b (some (.defd true))) k)):=by
     cases hcc:Nat.ble h.wm b with
     |false=>rw[hcc]at he;exact absurd he hA.bad
     |true=>rw[hcc]at he;exact⟨rfl,he⟩
    rw[N1]at hwm
    have hobj:w.heap[L.blk]? =some (.deferred (some [])):=r.blk b _ L hg hL
    obtain⟨r1,s1⟩:=r.upd b _ (.defd true) L hg hL hwm (w':=w.putObj L.blk (.deferred none)) (fun i hi=>World.putObj_heap_other hi) World.putObj_size rfl rfl rfl rfl (by
     rw[World.putObj_heap_same (r.lt b L hL)];exact rfl)
    left
    refine⟨L.blk,_,rfl,run_takeDeferred hobj,?_⟩
    have:=hl R A T hA fn a ds _ k he K w0 β act _ dr r1 f hds
    refine V8 ?_ this
    rintro e w' ⟨u,β',v,h',h1,h2,h3,h4,h5⟩
    exact⟨u,β',v,h',h1,h2,h3,h4,s1.trans h5⟩
   ·exact absurd he hA.bad
  |fn g cap args=>
   obtain⟨us,cs,rfl,ra,rc⟩:=hx
   replace he:T (lFn (ev E n) A fn.results.toList a ds h k (b81 E g (args++cap) h)):=he
   have hs:=b09 hE (f:=g) (args:=args++cap) (us:=us.toList++cs.toList) r (ra.append rc)
   unfold lFn at he
   split at he
   ·rename_i gf args' hres
    rw[hres]at hs
    obtain⟨vs,hrun,ra'⟩:=hs
    right
    refine⟨(fun hh=>by cases hh),.func g,cs,gf,vs.toArray,rfl,?_,fun _ _=>trivial,?_⟩
    ·have:(us.toList++cs.toList).toArray=us++cs:=by apply y8;simp
     rw[this]at hrun
     simpa[invoke]using hrun
    ·refine CallsDIn.mono (hd R A T hA gf args' h _ he K w0 β w vs .returning r ra') ?_
     rintro e m' w' ⟨rfl,u,β',v,h',rfl,hke,-,hr',hst'⟩
     have:=hl R A T hA fn a ds h' k hke K w0 β' act w' dr hr' (f.mono (hst'.Le r)) (hds.mono (hst'.Le r))
     refine V8 ?_ this
     rintro e w' ⟨u,β',v,h',h1,h2,h3,h4,h5⟩
     exact⟨u,β',v,h',h1,h2,h3,h4,hst'.trans h5⟩
   ·exact absurd he hA.bad
theorem c23{n:Nat}(hk:ao6 E ω n)(hlv:bz2 E ω n):b29 E ω (n+1):=by
 intro R A T hA f args h k he K w0 β w us r ra
 have he:T (cy9 E.P (ev E n) A f args h k (E.P.funcs[f]?)):=he
 unfold cy9 at he
 split at he
 ·exact absurd he hA.bad
 ·rename_i fn hf
  split at he
  ·exact absurd he hA.bad
  ·rename_i c hb
   obtain⟨hlim,he⟩:Nat.ble (Nat.max fn.ntmps args.length) 256=true∧T (ev E n R A (.code c ⟨a68 args 0 TF.empty,Nat.max fn.ntmps args.length,[],f,[],none⟩ h (cr3 E.P (ev E n) A fn.results.toList k))):=by
    cases hc:Nat.ble (Nat.max fn.ntmps args.length) 256 with
    |false=>rw[hc]at he;exact absurd he hA.bad
    |true=>rw[hc]at he;exact⟨rfl,he⟩
   rw[N1]at hlim
   refine(callsIn_wide (n:=0)).1 (callsIn_of_wp_marks (F:=Fen none) hf hb trivial (hk R A T hA c _ h _ he K w0 β _ w none _ r (b33 ra hlim) rfl ?_))
   intro e a' h' β' act' w' hke _ hf' hr' hst'
   have fin:(e= .norm∨e= .ret)→LeavesInM Fence.wide 0 E.P fn act'.tmps (fun e w'=> ∃u β' v h',e= .returned u∧T (k v h')∧VR β' ω v u∧HR β' ω K w0 h' w'∧St h β h' β') act'.defers .returning w':=by
    intro hee
    have hke:T (match a'.ds with
     | []=>cO2 A h' k (aB2 E.P a' h' fn.results.toList)
     |ds=>ev E n R A (.leave fn.results.toList a' ds h' k)):=by
     rcases hee with rfl|rfl<;>exact hke
    have hd:=hf'.defers
    cases hds:a'.ds with
    |nil=>
     rw[hds]at hke hd
     rw[show act'.defers=[]from hd]
     obtain⟨v,h1,h2⟩:=aM5 hA hke hr' hf' hst'
     exact⟨v,h1,h2⟩
    |cons x y=>
     rw[hds]at hke
     refine V8 ?_ (hlv R A T hA fn a' _ h' k hke K w0 β' act' w' _ hr' hf' (hds▸hd))
     rintro e w' ⟨u,β',v,h',h1,h2,h3,h4,h5⟩
     exact⟨u,β',v,h',h1,h2,h3,h4,hst'.trans h5⟩
   cases e with
   |norm=>exact fin (.inl rfl)
   |ret=>exact fin (.inr rfl)
   |exit id=>exact absurd hke hA.bad
end Go.Ev
