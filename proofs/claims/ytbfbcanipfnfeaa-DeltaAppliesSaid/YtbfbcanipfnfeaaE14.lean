import Derived.Test.YtbfbcanipfnfeaaE13b
set_option linter.unusedVariables false
set_option linter.unusedSimpArgs false
namespace Go.Ev
open Go
variable{P:Program}{β:Bij}{ω:Opq}{K:Nat→Prop}{w0 w:World}{h h':Heap}
theorem bb0: ∀{l:List Nat} {s:Nat},bu3 l=some s→l.toArray.back? =some s
 | [],s,e=>by cases e
 | [x],s,e=>by simp only[bu3,a8]at e;subst e;rfl
 |x::y::r,s,e=>by
  have ih:=bb0 (l:=y::r) (s:=s) e
  simp only[List.back?_toArray]at ih⊢
  rw[List.getLast?_cons_cons];exact ih
theorem bW0{it a:AV}{vi:Value}(r:HR β ω K w0 h w)(e:bu4 it h=some a)(ri:VR β ω it vi): ∃v,VR β ω a v∧(Instr.entry vi).run P w= .ok v w:=by
 unfold bu4 at e
 split at e
 ·rename_i b
  simp only[VR]at ri;obtain⟨L,hL,rfl⟩:=ri
  split at e
  ·rename_i m since seen stepped hg
   obtain⟨h0,m',h1,h2⟩:=r.iter hg hL
   simp only[IR]at h2;obtain⟨Lm,hLm,rfl⟩:=h2
   split at e
   ·rename_i s es c hs hgm
    replace e:=M7 e
    obtain⟨hc,e⟩:=e
    rw[M8]at hc;subst hc
    simp only[j4]at e
    obtain⟨⟨i,en⟩,hf,rfl⟩:=e
    obtain⟨E,g1,g2⟩:=r.map hgm hLm
    obtain⟨j,k,v,e1,e2,e3,e4,e5,e6,e7⟩:=aI1 g2 0 hf
    obtain⟨-,q1⟩:=e7 (fun x=>x.born==s) (fun x=>by simp)
    have q2:E.find? (fun x=>x.born==s)=some ⟨k,v,en.born⟩:=by rw[←Array.find?_toList];exact q1
    have hb:=bb0 hs
    refine⟨.tuple #[k,v],⟨_,rfl,.cons e4 (.one e5)⟩,?_⟩
    have hcc:(c !=c)=false:=by simp
    simp only[h0,Nat.add_zero,Instr.entry,Sem.run_bind,ao0 h1,Result.andThen_ok,hb,O7 g1,hcc,i4,if_false,Sem.run_pure,q2]
   ·cases e
  ·cases e
 ·cases e
theorem aS9{x a:AV}{xt t:TypeId}{ok:Bool}{vx:Value}(e:ac4 P x t ok=some a)(rx:VR β ω x vx): ∃v,VR β ω a v∧ ∀w,(Instr.typeAssert vx xt t ok).run P w= .ok v w:=by
 have fails:bu5 P t ok=some a→ok=true∧ ∃z,VR β ω a (.tuple #[z,.bool false])∧ ∀w,(zeroValue t).run P w= .ok z w:=by
  intro e
  unfold bu5 at e
  obtain⟨hok,e⟩:=M7 e
  simp only[j4]at e
  obtain⟨z,hz,rfl⟩:=e
  obtain⟨zv,z1,z2⟩:=an9 hz
  exact⟨hok,zv,⟨_,rfl,.cons (z1 _ _) (.one rfl)⟩,z2⟩
 have holds: ∀(y:AV) (v:Value),VR β ω y v→bO6 ok y=some a→VR β ω a (if ok then .tuple #[v,.bool true]else v):=by
  intro y v hv e
  unfold bO6 at e
  simp only[a8]at e;subst e
  cases ok
  ·exact hv
  ·exact⟨_,rfl,.cons hv (.one rfl)⟩
 unfold ac4 at e
 cases hd:P.underlying t with
 |none=>rw[hd]at e;cases e
 |some d=>
  rw[hd]at e
  cases d with
  |interface m=>cases e
  |_=>
   simp only[]at e
   split at e
   ·obtain⟨rfl,z,z1,z2⟩:=fails e
    simp only[VR]at rx;subst rx
    exact⟨_,z1,fun w=>by simp only[Instr.typeAssert,Sem.run_bind,M9 hd,Result.andThen_ok,if_true,z2,Sem.run_pure]⟩
   ·rename_i ty y
    simp only[VR]at rx;obtain⟨v,rfl,rv⟩:=rx
    cases ht:Nat.beq ty t with
    |true=>
     rw[ht]at e
     rw[M8]at ht;subst ht
     exact⟨_,holds y v rv e,fun w=>by simp only[Instr.typeAssert,Sem.run_bind,M9 hd,Result.andThen_ok,if_true,Sem.run_pure]⟩
    |false=>
     rw[ht]at e
     obtain⟨rfl,z,z1,z2⟩:=fails e
     have hne: ¬ty=t:=fun hh=>by rw[M8.2 hh]at ht;cases ht
     exact⟨_,z1,fun w=>by simp only[Instr.typeAssert,Sem.run_bind,M9 hd,Result.andThen_ok,if_neg hne,if_true,z2,Sem.run_pure]⟩
   ·cases e
theorem ce6{s d:TypeId}{x a:AV}{vx:Value}(hfx: ∀t,ω.fix t=aq0 P t)(r:HR β ω K w0 h w)(e:bG0 P s d x h=some (a,h'))(rx:VR β ω x vx):Ok P β ω K w0 w h (convert s d vx) a h':=by
 unfold bG0 at e
 split at e
 ·rename_i sd k k' n hs hd
  simp only[a8,d7]at e;obtain⟨rfl,rfl⟩:=e
  simp only[VR]at rx;subst rx
  refine⟨β,.int k (k.wrap n),w,?_,by rw[W7];rfl,r,.refl _ _⟩
  simp only[convert,Sem.run_bind,M9 hs,M9 hd,Result.andThen_ok]
  rfl
 ·rename_i sd l hs hd
  simp only[a8,d7]at e;obtain⟨rfl,rfl⟩:=e
  simp only[VR]at rx;subst rx
  refine⟨β,_,w,?_,rfl,r,.refl _ _⟩
  simp only[convert,Sem.run_bind,M9 hs,M9 hd,Result.andThen_ok,Sem.run_pure]
 ·rename_i el x hs hd _
  simp only[j4,d7]at e
  obtain⟨l,hl,rfl,rfl⟩:=e
  exact⟨β,_,w,bV6 hs hd r hl rx,rfl,r,.refl _ _⟩
 ·rename_i t b o hs hd
  exact bl7 hs hd r e rx
 ·rename_i t b o hs hd
  exact bl9 hfx hs hd r e rx
 ·cases e
theorem ce7{s d:TypeId}{x a:AV}{vx:Value}(r:HR β ω K w0 h w)(e:bO9 P s d x h=some (a,h'))(rx:VR β ω x vx):Ok P β ω K w0 w h (convert s d vx) a h':=by
 unfold bO9 at e
 split at e
 ·rename_i el l hs hd
  exact bV7 hs hd r e rx
 ·cases e
theorem cz8{ts:Array TypeId}{ty n:Nat}{x:AV}{vx:Value}(r:HR β ω K w0 h w)(e:d71 P ((ts[0]?).bind P.underlying) x h=some n)(rx:VR β ω x vx):
 (Builtin.len_ ts ty #[vx]).run P w= .ok (goInt n) w:=by
 unfold d71 at e
 split at e
 ·rename_i ht
  simp only[j6]at ht
  obtain⟨t,h0,ht⟩:=ht
  split at e
  ·simp only[a8]at e;subst e
   simp only[VR]at rx;subst rx
   simp[Builtin.len_,h0,M9 ht]
   rfl
  ·cases e
 ·rename_i el ht
  simp only[j6]at ht
  obtain⟨t,h0,ht⟩:=ht
  cases hi:bP0 x with
  |true=>rw[hi]at e;cases e
  |false=>
   rw[hi]at e
   rcases cd9 e rx with⟨b,c,rfl⟩|⟨l,rfl⟩
   ·simp[Builtin.len_,h0,M9 ht]
   ·simp[bP0]at hi
 ·rename_i kt et ht
  simp only[j6]at ht
  obtain⟨t,h0,ht⟩:=ht
  split at e
  ·simp only[a8]at e;subst e
   simp only[VR]at rx;subst rx
   simp[Builtin.len_,h0,M9 ht]
  ·split at e
   ·rename_i b es c hg
    simp only[a8]at e;subst e
    simp only[VR]at rx;obtain⟨L,hL,rfl⟩:=rx
    obtain⟨E,h1,h2⟩:=r.map hg hL
    have:=h2.length
    simp only[Array.length_toList]at this
    simp[Builtin.len_,h0,M9 ht,O7 h1,this]
   ·cases e
  ·cases e
 ·cases e
theorem aI4{ts:Array TypeId}{t ty elem b o n cap:Nat}{a:AV}{L:Loc}(h0:ts[0]? =some t)(ht:P.underlying t=some (.slice elem))(r:HR β ω K w0 h w)(e:aT8 P elem b o n h=some (a,h'))(hL:β b=some L):
 Ok P β ω K w0 w h (Builtin.clear_ ts ty #[.slice (some ⟨L.blk,L.off+o,none⟩) n cap]) a h':=by
 unfold aT8 at e
 split at e
 ·simp only[a8,d7]at e;obtain⟨rfl,rfl⟩:=e
  exact⟨β,.tuple #[],w,by simp[Builtin.clear_,h0,M9 ht],⟨_,rfl,rfl⟩,r,.refl _ _⟩
 ·rename_i hn
  split at e
  ·rename_i z hz
   obtain⟨hp,e⟩:=M7 e
   rw[N9]at hp
   simp only[j4,d7]at e
   obtain⟨h1,he,rfl,rfl⟩:=e
   obtain⟨zv,hzv,hzr⟩:=Y4 hz
   have rz:VRs β ω z.cells zv.cells.toList:=VR.cells' (a19 hzv) (ab0 hzv)
   have hzs:zv.cells.size=z.cells.length:=by have:=rz.length;simpa using this
   obtain⟨p1,p2,p3⟩:=Y1 (P:=P) r he hL (ar1 rz (by omega) n)
   refine⟨β,.tuple #[],_,?_,⟨_,rfl,rfl⟩,p2,p3⟩
   obtain⟨m,rfl⟩: ∃m,n=m+1:=⟨n-1,by have:n≠0:=fun hh=>hn hh;omega⟩
   simp only[Builtin.clear_,h0,Sem.run_bind,M9 ht,Result.andThen_ok,C5,List.getElem?_cons_zero,hzr,p1,Sem.run_pure]
  ·cases e
theorem bW1{ts:Array TypeId}{ty:Nat}{x a:AV}{vx:Value}(r:HR β ω K w0 h w)(e:bP1 P ((ts[0]?).bind P.underlying) x h=some (a,h'))(rx:VR β ω x vx):Ok P β ω K w0 w h (Builtin.clear_ ts ty #[vx]) a h':=by
 unfold bP1 at e
 split at e
 ·rename_i elem ht
  simp only[j6]at ht
  obtain⟨t,h0,ht⟩:=ht
  split at e
  ·simp only[a8,d7]at e;obtain⟨rfl,rfl⟩:=e
   simp only[VR]at rx;subst rx
   exact⟨β,.tuple #[],w,by simp[Builtin.clear_,h0,M9 ht],⟨_,rfl,rfl⟩,r,.refl _ _⟩
  ·simp only[VR]at rx;obtain⟨L,hL,rfl⟩:=rx
   exact aI4 h0 ht r e hL
  ·simp only[VR]at rx;obtain⟨L,c,hL,_,rfl⟩:=rx
   exact aI4 h0 ht r e hL
  ·cases e
 ·rename_i kt et ht
  simp only[j6]at ht
  obtain⟨t,h0,ht⟩:=ht
  split at e
  ·simp only[a8,d7]at e;obtain⟨rfl,rfl⟩:=e
   simp only[VR]at rx;subst rx
   exact⟨β,.tuple #[],w,by simp[Builtin.clear_,h0,M9 ht],⟨_,rfl,rfl⟩,r,.refl _ _⟩
  ·rename_i b
   split at e
   ·rename_i es c hg
    replace e:=M7 e
    obtain⟨hwm,e⟩:=e
    rw[N1]at hwm
    simp only[a8,d7]at e;obtain⟨rfl,rfl⟩:=e
    simp only[VR]at rx;obtain⟨L,hL,rfl⟩:=rx
    obtain⟨E,h1,h2⟩:=r.map hg hL
    obtain⟨p1,p2⟩:=r.set1 b _ (.map [] c) L (.map #[] c) hg hL hwm ⟨#[],rfl,.nil⟩
    refine⟨β,.tuple #[],_,?_,⟨_,rfl,rfl⟩,p1,p2⟩
    simp only[Builtin.clear_,h0,Sem.run_bind,M9 ht,Result.andThen_ok,C5,List.getElem?_cons_zero,O7 h1,Q8 _ h1,Sem.run_pure]
   ·cases e
  ·cases e
 ·cases e
theorem VRs.inv1{a:AV}{us:Array Value}(r:VRs β ω [a] us.toList): ∃v,us= #[v]∧VR β ω a v:=by
 obtain⟨v,vr,e,p,q⟩:=r
 rw[show vr=[]from q]at e
 exact⟨v,by rw[←u4];simpa using e,p⟩
theorem VRs.inv2{a b:AV}{us:Array Value}(r:VRs β ω [a,b] us.toList): ∃v u,us= #[v,u]∧VR β ω a v∧VR β ω b u:=by
 obtain⟨v,vr,e,p,u,ur,e2,q,t⟩:=r
 rw[show ur=[]from t]at e2
 subst e2
 exact⟨v,u,by rw[←u4];simpa using e,p,q⟩
theorem cz9{x a:AV}{v:Value}(r:HR β ω K w0 h w)(e:d73 x h=some a)(rx:VR β ω x v): ∃p n c,v= .slice p n c∧VR β ω a (.int .i64 (c:Nat)):=by
 unfold d73 at e
 split at e
 ·simp only[a8]at e;subst e
  simp only[VR]at rx;subst rx
  exact⟨_,_,_,rfl,rfl⟩
 ·simp only[a8]at e;subst e
  simp only[VR]at rx;obtain⟨p,rfl⟩:=rx
  exact⟨_,_,_,rfl,rfl⟩
 ·simp only[a8]at e;subst e
  simp only[VR]at rx;obtain⟨L,_,rfl⟩:=rx
  exact⟨_,_,_,rfl,rfl⟩
 ·rename_i b o n sz
  split at e
  ·rename_i el fz cs hg
   replace e:=M7 e
   obtain⟨hc,e⟩:=e
   obtain⟨h1,h2⟩:=M6 hc
   rw[N9]at h1
   rw[N1]at h2
   simp only[a8]at e;subst e
   simp only[VR]at rx;obtain⟨L,c,hL,hx,rfl⟩:=rx
   obtain⟨C,lo,hi,vs,q1,q2,q3,q4⟩:=r.cells hg hL
   refine⟨_,_,_,rfl,(c:Nat),rfl,?_⟩
   have:(cs.length-o)/sz≤c:=by
    rw[←Nat.mul_div_cancel c h1]
    exact Nat.div_le_div_right (by omega)
   exact Int.ofNat_le.2 this
  ·cases e
 ·cases e
theorem ao1{b:Builtin}{ts:Array TypeId}{ty:TypeId}{cs:Array Bool}{args:List AV}{us:Array Value}{a:AV}(hfx: ∀t,ω.fix t=aq0 P t)(r:HR β ω K w0 h w)(e:aq2 P b ts args h=some (a,h'))(ra:VRs β ω args us.toList):
 ∃β' v w',(builtin b ts ty cs us).run P w= .ok (.value v) w'∧VR β' ω a v∧HR β' ω K w0 h' w'∧St h β h' β':=by
 have lift: ∀{m:Sem Value},Ok P β ω K w0 w h m a h'→ ∃β' v w',(do pure (.value (←m)):Sem Next).run P w= .ok (.value v) w'∧VR β' ω a v∧HR β' ω K w0 h' w'∧St h β h' β':=by
  intro m ⟨β',v,w',h1,h2,h3,h4⟩
  exact⟨β',v,w',by simp only[Sem.run_bind,h1,Result.andThen_ok,Sem.run_pure],h2,h3,h4⟩
 unfold aq2 at e
 split at e
 ·simp only[j4,d7]at e
  obtain⟨n,hn,rfl,rfl⟩:=e
  obtain⟨v,rfl,rv⟩:=ra.inv1
  exact lift ⟨β,_,w,cz8 r hn rv,rfl,r,.refl _ _⟩
 ·obtain⟨v,u,rfl,rv,ru⟩:=ra.inv2
  exact lift (bH8 hfx r e rv ru)
 ·obtain⟨v,u,rfl,rv,ru⟩:=ra.inv2
  exact lift (ce0 r e rv ru)
 ·obtain⟨v,rfl,rv⟩:=ra.inv1
  exact lift (bW1 r e rv)
 ·obtain⟨v,u,rfl,rv,ru⟩:=ra.inv2
  split at e
  ·rename_i t h0
   simp only[j4,d7]at e
   obtain⟨h1,he,rfl,rfl⟩:=e
   obtain⟨w',d1,d2,d3⟩:=bI0 (ty:=ty) h0 r he rv ru
   exact lift ⟨β,_,w',d1,⟨_,rfl,rfl⟩,d2,d3⟩
  ·cases e
 ·obtain⟨v,rfl,rv⟩:=ra.inv1
  exact lift (bI2 r e rv)
 ·obtain⟨v,u,rfl,rv,ru⟩:=ra.inv2
  simp only[VR]at ru;subst ru
  exact lift (cz7 r e rv)
 ·obtain⟨v,rfl,rv⟩:=ra.inv1
  split at e
  ·rename_i el hu
   simp only[j4,d7]at e
   obtain⟨a0,he,rfl,rfl⟩:=e
   obtain⟨p,n,c,rfl,rc⟩:=cz9 r he rv
   refine lift ⟨β,.int .i64 (c:Nat),w,?_,rc,r,.refl _ _⟩
   cases ht:ts[0]? with
   |none=>rw[ht]at hu;cases hu
   |some t=>
    rw[ht]at hu
    have hu:P.underlying t=some (.slice el):=hu
    simp[Builtin.cap_,ht,Sem.run_bind,run_underlying hu,goInt]
  ·cases e
 ·obtain⟨v,u,rfl,rv,ru⟩:=ra.inv2
  simp only[VR]at rv ru;subst rv ru
  simp only[a8,d7]at e;obtain⟨rfl,rfl⟩:=e
  rename_i k x k' y
  refine lift ⟨β,.int k (if y>x then y else x),w,?_,?_,r,.refl _ _⟩
  ·simp[Builtin.max_,Builtin.max2]
  ·rw[a69]
   by_cases hh:x<y
   ·simp[VR,hh]
   ·simp[VR,hh]
 ·obtain⟨v,u,rfl,rv,ru⟩:=ra.inv2
  simp only[VR]at rv ru;subst rv ru
  simp only[a8,d7]at e;obtain⟨rfl,rfl⟩:=e
  rename_i k x k' y
  refine lift ⟨β,.int k (if y<x then y else x),w,?_,?_,r,.refl _ _⟩
  ·simp[Builtin.min_,Builtin.min2]
  ·rw[a69]
   by_cases hh:y<x
   ·simp[VR,hh]
   ·simp[VR,hh]
 ·cases e
noncomputable def Ext.model:Ext→Array Value→Sem Value
 | .addI k=>Extern.Atomic.update (Op.intArith .add) k true
 | .loadI k=>Extern.Atomic.loadT (.int k)
 | .storeT=>Extern.Atomic.storeT
 | .casI k=>Extern.Atomic.casT (.int k)
 | .raceOff=>fun _=>do mark .disable;pure Extern.Race.none_
 | .raceOn=>fun _=>do mark .enable;pure Extern.Race.none_
 | .raceAcq=>Extern.Race.marked .acquire
 | .raceRel=>Extern.Race.marked .releaseMerge
 | .mapsClone=>Extern.MapsClone.clone
 | .ident=>Extern.AbiNoEscape.same
 | .count=>Extern.BytealgCount.count
 | .indexByte=>Extern.BytealgIndexByte.indexByte
 | .overlaps t r=>Extern.SlicesOverlaps.overlaps #[t,t] #[r]
 | .makeNoZero t=>Extern.BytealgMakeNoZero.makeNoZero #[] #[t]
theorem bW2{x:AV}{v:Value}{b o:Nat}(e:cN7 x=some (b,o))(rx:VR β ω x v): ∃L n c,β b=some L∧v= .slice (some ⟨L.blk,L.off+o,none⟩) n c:=by
 unfold cN7 at e
 split at e
 ·simp only[a8,d7]at e;obtain⟨rfl,rfl⟩:=e
  simp only[VR]at rx;obtain⟨L,hL,rfl⟩:=rx
  exact⟨L,_,_,hL,rfl⟩
 ·simp only[a8,d7]at e;obtain⟨rfl,rfl⟩:=e
  simp only[VR]at rx;obtain⟨L,c,hL,_,rfl⟩:=rx
  exact⟨L,_,_,hL,rfl⟩
 ·cases e
theorem bb1(a b:Addr)(w:World): ∃m,(mayBeOne a b).run P w= .ok m w:=by
 have hs: ∀x:Addr,∃m,(stringish x).run P w= .ok m w:=by
  intro x
  unfold stringish
  simp only[Sem.run_bind,run_frozen,Result.andThen_ok]
  cases w.frozen? x with
  |true=>exact⟨_,rfl⟩
  |false=>
   simp only[i4,if_false,Sem.run_bind,run_shape,Result.andThen_ok,Sem.run_pure]
   cases w.shape? x.block with
   |none=>exact⟨_,rfl⟩
   |some p=>exact⟨_,rfl⟩
 obtain⟨m1,h1⟩:=hs a
 obtain⟨m2,h2⟩:=hs b
 unfold mayBeOne
 simp only[Sem.run_bind,h1,h2,run_shape,Result.andThen_ok,Sem.run_pure]
 exact⟨_,rfl⟩
theorem aI5(q:Question)(w:World): ∃n w',(choose q).run P w= .ok n w'∧(w'=w∨w'=w.drew):=by
 rw[run_choose]
 split
 ·exact⟨_,_,rfl,.inl rfl⟩
 ·exact⟨_,_,rfl,.inr rfl⟩
theorem ce8{t rt e:TypeId}{size:Nat}(ht:P.underlying t=some (.slice e))(hz:a90 P e=some size){a b:Addr}(la ca lb cb:Nat)(hne:a.block≠b.block)
 {tA tB:TypeId} {kA kB:Nat} (hsa:w.shape? a.block=some (tA,kA)) (hsb:w.shape? b.block=some (tB,kB)) (hfa:w.frozen? a=false):
 ∃c w',(Extern.SlicesOverlaps.overlaps #[t,t] #[rt] #[.slice (some a) la ca,.slice (some b) lb cb]).run P w= .ok (.bool c) w'∧(w'=w∨w'=w.drew):=by
 have hnb:(a.block !=b.block)=true:=by simpa using hne
 obtain⟨m,hm⟩:=bb1 (P:=P) a b w
 obtain⟨n,w1,hn,hw⟩:=aI5 (P:=P) (.extern "sameAddr.stringBytes" 2) w
 have hv: ∀x:Addr,∀p,w.shape? x.block=some p→(noView x).run P w= .ok () w:=by
  intro x p hp
  simp only[noView,viewAt,Sem.run_bind,run_shape,Result.andThen_ok,hp,Option.isSome_some,if_true,Sem.run_pure,Option.isSome_none,i4,if_false]
 delta Extern.SlicesOverlaps.overlaps Extern.SlicesOverlaps.overlaps.match_4 Extern.SlicesOverlaps.overlaps._sparseCasesOn_4
 rw[dif_pos (show(#[Value.slice (some a) la ca,Value.slice (some b) lb cb]:Array Value).size=2 from rfl)]
 dsimp only[Array.getLit,List.getElem_toArray,List.getElem_cons_zero,List.getElem_cons_succ]
 simp only[C5,List.getElem?_cons_zero,Sem.run_bind,Result.andThen_ok,M9 ht,O2 hz,Sem.run_pure]
 by_cases h0:la=0∨lb=0∨size=0
 ·rw[if_pos h0];exact⟨_,_,rfl,.inl rfl⟩
 ·rw[if_neg h0]
  simp only[hnb,if_true,A6,Sem.run_bind,run_frozen,Result.andThen_ok,hfa,k5,i4,if_false,hv a _ hsa,hv b _ hsb,hm]
  cases m with
  |true=>
   simp only[if_true,Sem.run_bind,hn,Result.andThen_ok,Sem.run_pure]
   exact⟨_,_,rfl,hw⟩
  |false=>
   simp only[i4,if_false,Sem.run_pure,Result.andThen_ok]
   exact⟨_,_,rfl,.inl rfl⟩
theorem ce9{t rt:TypeId}{args:List AV}{us:Array Value}(r:HR β ω K w0 h w)(ra:VRs β ω args us.toList):
 bG2 t P args h= .bad∨ ∃l,bG2 t P args h= .choice l∧ ∃x∈l,Ok P β ω K w0 w h ((Ext.overlaps t rt).model us) x.1 x.2:=by
 unfold bG2
 split
 ·rename_i x y
  obtain⟨v,u,rfl,rv,ru⟩:=ra.inv2
  split
  ·rename_i e ht
   split
   ·rename_i s hz
    cases hap:cw3 (cN7 x) (cN7 y) h with
    |false=>exact .inl rfl
    |true=>
     refine .inr ⟨_,rfl,?_⟩
     unfold cw3 at hap
     split at hap
     ·rename_i p q hp hq
      obtain⟨p1,p2⟩:=p
      obtain⟨q1,q2⟩:=q
      obtain⟨g1,g2⟩:=M6 hap
      split at g2
      ·rename_i e1 fz cs e2 fz2 cs2 hg1 hg2
       obtain⟨g3,g4⟩:=M6 g2
       rw[N1]at g3
       rw[N9]at g4
       have hne:p1≠q1:=by
        rintro rfl
        simp at g1
       obtain⟨L,n,c,hL,rfl⟩:=bW2 hp rv
       obtain⟨M,n2,c2,hM,rfl⟩:=bW2 hq ru
       have hsep:=r.sep _ _ _ _ _ _ hg1 hg2 hL hM hne (.inr (.inr (.inl rfl)))
       obtain⟨C,lo,hi,vs,a1,a2,a3,a4,a5,a6,a7⟩:=r.cells hg1 hL
       obtain⟨C2,lo2,hi2,vs2,b1,b2,b3,b4,b5,b6,b7⟩:=r.cells hg2 hM
       obtain⟨d,w',hd,hw⟩:=ce8 (w:=w) (rt:=rt) ht hz n c n2 c2 (a:=⟨L.blk,L.off+p2,none⟩) (b:=⟨M.blk,M.off+q2,none⟩) hsep
        (by simp only[World.shape?,a1];rfl) (by simp only[World.shape?,b1];rfl) (a28 a1 (a7 p2 g3 (by simp only[]at g4;omega)))
       refine⟨(.bool d,h),by cases d<;>simp,β,.bool d,w',hd,rfl,?_,.refl _ _⟩
       rcases hw with rfl|rfl
       ·exact r
       ·exact r.drew
      ·cases g2
     ·cases hap
   ·exact .inl rfl
  ·exact .inl rfl
 ·exact .inl rfl
theorem bm0{b o el fz:Nat}{cs:List AV}{L:Loc}{k:IntKind}{n:Int}(r:HR β ω K w0 h w)(hg:h.get b=some (.cells el fz cs))(hL:β b=some L)(hc:cs[o]? =some (.int k n)):
 w.cell? ⟨L.blk,L.off+o,none⟩=some (.int k n)∧(∃p,w.shape? L.blk=some p)∧(fz≤o→w.frozen? ⟨L.blk,L.off+o,none⟩=false):=by
 obtain⟨C,lo,hi,vs,q1,q2,q3,q4,q5,q6,q7⟩:=r.cells hg hL
 obtain⟨c,hc',rc⟩:=q5.get o _ hc
 simp only[VR]at rc;subst rc
 have hlt:o<cs.length:=by
  rcases d8 o cs.length with hh|hh
  ·exact hh
  ·rw[j7 hh]at hc;cases hc
 exact⟨by rw[a41 q1,q6 o hlt,hc'],⟨_,by simp only[World.shape?,q1];rfl⟩,fun hf=>a28 q1 (q7 o hf (by omega))⟩
theorem cr6{b o el fz:Nat}{cs:List AV}{v:AV}(hg:h.get b=some (.cells el fz cs))(he:putCells h b o [v]=some h'):fz≤o:=by
 unfold putCells at he
 split at he
 ·rename_i heq;cases heq
 ·split at he
  ·rename_i e2 fz2 cs2 hg2
   rw[hg]at hg2;simp only[a8,Blk.cells.injEq]at hg2;obtain⟨rfl,rfl,rfl⟩:=hg2
   obtain⟨hx,he⟩:=M7 he
   obtain⟨hx,c4⟩:=M6 hx
   obtain⟨hx,c3⟩:=M6 hx
   obtain⟨c1,c2⟩:=M6 hx
   exact N1.1 c2
  ·cases he
theorem aV1{b o el fz:Nat}{cs:List AV}{L:Loc}{k k2:IntKind}{n y:Int}(r:HR β ω K w0 h w)(hg:h.get b=some (.cells el fz cs))(hL:β b=some L)(hc:cs[o]? =some (.int k2 n))(he:putCells h b o [.int k y]=some h'):
 ∃w',(store ⟨L.blk,L.off+o,none⟩ (.int k y) .atomic).run P w= .ok () w'∧HR β ω K w0 h' w'∧St h β h' β:=by
 obtain⟨_,p2,p3⟩:=Y1 (P:=P) (us:=[.int k y]) r he hL (.one rfl)
 obtain⟨a1,_,a3⟩:=bm0 r hg hL hc
 have hst:=run_store P w ⟨L.blk,L.off+o,none⟩ (.int k y) .atomic rfl
 rw[a1,a3 (cr6 hg he)]at hst
 simp only[i4,if_false]at hst
 exact⟨_,hst,p2,p3⟩
theorem cA0{x:Ext}{args:List AV}{us:Array Value}{a:AV}(r:HR β ω K w0 h w)(e:cQ9 P x args h=some (a,h'))(ra:VRs β ω args us.toList):Ok P β ω K w0 w h (x.model us) a h':=by
 unfold cQ9 at e
 split at e
 ·rename_i k b o k' y
  obtain⟨v,u,rfl,rv,ru⟩:=ra.inv2
  split at e
  ·rename_i el fz cs hg
   split at e
   ·rename_i k2 n hc
    split at e
    ·rename_i hk;subst hk
     simp only[j4,d7]at e
     obtain⟨h1,he,rfl,rfl⟩:=e
     simp only[VR]at rv ru;obtain⟨L,hL,rfl⟩:=rv;subst ru
     obtain⟨C,lo,hi,vs,q1,q2,q3,q4,q5,q6,q7⟩:=r.cells hg hL
     obtain⟨c,hc',rc⟩:=q5.get o _ hc
     simp only[VR]at rc;subst rc
     have hlt:o<cs.length:=by
      rcases d8 o cs.length with hh|hh
      ·exact hh
      ·rw[j7 hh]at hc;cases hc
     have hcell:w.cell? ⟨L.blk,L.off+o,none⟩=some (.int k n):=by rw[a41 q1,q6 o hlt,hc']
     obtain⟨p1,p2,p3⟩:=Y1 (P:=P) (us:=[.int k (k.wrap (n+y))]) r he hL (.one (by rw[W7];rfl))
     have hfr:w.frozen? ⟨L.blk,L.off+o,none⟩=false:=by
      unfold putCells at he
      split at he
      ·rename_i heq;cases heq
      ·split at he
       ·rename_i e2 fz2 cs2 hg2
        rw[hg]at hg2;simp only[a8,Blk.cells.injEq]at hg2;obtain⟨rfl,rfl,rfl⟩:=hg2
        obtain⟨hx,he⟩:=M7 he
        obtain⟨hx,c4⟩:=M6 hx
        obtain⟨hx,c3⟩:=M6 hx
        obtain⟨c1,c2⟩:=M6 hx
        rw[N1]at c2
        exact a28 q1 (q7 o c2 (by omega))
       ·cases he
     refine⟨β,.int k (k.wrap (n+y)),_,?_,by rw[W7];rfl,p2,p3⟩
     have hst:=run_store P w ⟨L.blk,L.off+o,none⟩ (.int k (k.wrap (n+y))) .atomic rfl
     rw[hcell,hfr]at hst
     simp only[i4,if_false]at hst
     show(do
      let a ←asAddr (.pointer (some ⟨L.blk,L.off+o,none⟩))
      let old ←Extern.Atomic.read (.int k) a
      let new ←Op.intArith .add k (←asInt old) (←asInt (.int k' y))
      store a new .atomic
      pure new:Sem Value).run P w=_
     simp only[Sem.run_bind,asAddr,Sem.run_pure,Result.andThen_ok,Extern.Atomic.read,run_load,hcell,if_true,asInt,asIntOf,Op.intArith,hst]
     rfl
    ·cases e
   ·cases e
  ·cases e
 ·rename_i k b o
  obtain⟨v,rfl,rv⟩:=ra.inv1
  split at e
  ·rename_i el fz cs hg
   split at e
   ·rename_i k2 n hc
    split at e
    ·rename_i hk;subst hk
     simp only[a8,d7]at e
     obtain⟨rfl,rfl⟩:=e
     simp only[VR]at rv;obtain⟨L,hL,rfl⟩:=rv
     obtain⟨a1,_,_⟩:=bm0 r hg hL hc
     refine⟨β,.int k n,w,?_,rfl,r,.refl _ _⟩
     show(Extern.Atomic.loadT (.int k) #[.pointer (some ⟨L.blk,L.off+o,none⟩)]).run P w=_
     delta Extern.Atomic.loadT Extern.Atomic.loadT.match_1
     rw[dif_pos (show(#[Value.pointer (some ⟨L.blk,L.off+o,none⟩)]:Array Value).size=1 from rfl)]
     dsimp only[Array.getLit,List.getElem_toArray,List.getElem_cons_zero,List.getElem_cons_succ]
     simp only[Sem.run_bind,asAddr,Sem.run_pure,Result.andThen_ok,Extern.Atomic.read,run_load,a1,if_true]
    ·cases e
   ·cases e
  ·cases e
 ·rename_i b o k n
  obtain⟨v,u,rfl,rv,ru⟩:=ra.inv2
  split at e
  ·rename_i el fz cs hg
   split at e
   ·rename_i k2 n2 hc
    simp only[j4,d7]at e
    obtain⟨h1,he,rfl,rfl⟩:=e
    simp only[VR]at rv ru;obtain⟨L,hL,rfl⟩:=rv;subst ru
    obtain⟨w1,g1,g2,g3⟩:=aV1 (P:=P) r hg hL hc he
    refine⟨β,.tuple #[],w1,?_,⟨_,rfl,rfl⟩,g2,g3⟩
    show(Extern.Atomic.storeT #[.pointer (some ⟨L.blk,L.off+o,none⟩),.int k n]).run P w=_
    delta Extern.Atomic.storeT Extern.Atomic.storeT.match_1
    rw[dif_pos (show(#[Value.pointer (some ⟨L.blk,L.off+o,none⟩),.int k n]:Array Value).size=2 from rfl)]
    dsimp only[Array.getLit,List.getElem_toArray,List.getElem_cons_zero,List.getElem_cons_succ]
    simp only[Sem.run_bind,asAddr,Sem.run_pure,Result.andThen_ok,g1,Extern.Atomic.none_]
   ·cases e
  ·cases e
 ·rename_i k b o k1 x k3 y
  obtain⟨v,vr,e1,rv,u,ur,e2,ru,t,tr,e3,rt,e4⟩:=ra
  rw[show tr=[]from e4]at e3
  subst e3
  subst e2
  obtain rfl:us= #[v,u,t]:=by rw[←u4];simpa using e1
  simp only[VR]at rv ru rt;obtain⟨L,hL,rfl⟩:=rv;subst ru;subst rt
  split at e
  ·rename_i el fz cs hg
   split at e
   ·rename_i k2 n hc
    split at e
    ·rename_i hk;subst hk
     obtain⟨a1,⟨p,a2⟩,a3⟩:=bm0 r hg hL hc
     have hfz:fz≤o:=by
      cases hq:b76 n x with
      |true=>
       rw[hq]at e
       simp only[cond_true,j4,d7]at e
       obtain⟨h1,he,_⟩:=e
       exact cr6 hg he
      |false=>
       rw[hq]at e
       obtain⟨hc2,_⟩:=M7 e
       exact N1.1 hc2
     have htf:(Extern.Atomic.touchesFrozen ⟨L.blk,L.off+o,none⟩).run P w= .ok false w:=by
      simp only[Extern.Atomic.touchesFrozen,viewAt,Sem.run_bind,run_shape,Result.andThen_ok,a2,Option.isSome_some,if_true,Sem.run_pure,run_frozen,a3 hfz]
     have hrd:(Extern.Atomic.read (.int k) ⟨L.blk,L.off+o,none⟩).run P w= .ok (.int k n) w:=by
      simp only[Extern.Atomic.read,Sem.run_bind,run_load,a1,Result.andThen_ok,if_true,Sem.run_pure]
     cases hq:b76 n x with
     |true=>
      rw[hq]at e
      simp only[cond_true,j4,d7]at e
      obtain⟨h1,he,rfl,rfl⟩:=e
      obtain⟨w1,g1,g2,g3⟩:=aV1 (P:=P) r hg hL hc he
      refine⟨β,.bool true,w1,?_,rfl,g2,g3⟩
      rw[a09]at hq
      show(Extern.Atomic.casT (.int k) #[.pointer (some ⟨L.blk,L.off+o,none⟩),.int k1 x,.int k3 y]).run P w=_
      delta Extern.Atomic.casT Extern.Atomic.casT.match_2
      rw[dif_pos (show(#[Value.pointer (some ⟨L.blk,L.off+o,none⟩),.int k1 x,.int k3 y]:Array Value).size=3 from rfl)]
      dsimp only[Array.getLit,List.getElem_toArray,List.getElem_cons_zero,List.getElem_cons_succ]
      simp only[Sem.run_bind,asAddr,Sem.run_pure,Result.andThen_ok,htf,i4,if_false,hrd,hq,if_true,g1]
     |false=>
      rw[hq]at e
      obtain⟨_,e⟩:=M7 e
      simp only[a8,d7]at e
      obtain⟨rfl,rfl⟩:=e
      refine⟨β,.bool false,w,?_,rfl,r,.refl _ _⟩
      rw[a09]at hq
      show(Extern.Atomic.casT (.int k) #[.pointer (some ⟨L.blk,L.off+o,none⟩),.int k1 x,.int k3 y]).run P w=_
      delta Extern.Atomic.casT Extern.Atomic.casT.match_2
      rw[dif_pos (show(#[Value.pointer (some ⟨L.blk,L.off+o,none⟩),.int k1 x,.int k3 y]:Array Value).size=3 from rfl)]
      dsimp only[Array.getLit,List.getElem_toArray,List.getElem_cons_zero,List.getElem_cons_succ]
      simp only[Sem.run_bind,asAddr,Sem.run_pure,Result.andThen_ok,htf,i4,if_false,hrd,hq]
    ·cases e
   ·cases e
  ·cases e
 ·simp only[a8,d7]at e
  obtain⟨rfl,rfl⟩:=e
  exact⟨β,.tuple #[],w,rfl,⟨_,rfl,rfl⟩,r,.refl _ _⟩
 ·simp only[a8,d7]at e
  obtain⟨rfl,rfl⟩:=e
  exact⟨β,.tuple #[],w,rfl,⟨_,rfl,rfl⟩,r,.refl _ _⟩
 ·obtain⟨v,rfl,rv⟩:=ra.inv1
  simp only[VR]at rv;obtain⟨L,hL,rfl⟩:=rv
  simp only[a8,d7]at e
  obtain⟨rfl,rfl⟩:=e
  exact⟨β,.tuple #[],w,rfl,⟨_,rfl,rfl⟩,r,.refl _ _⟩
 ·obtain⟨v,rfl,rv⟩:=ra.inv1
  simp only[VR]at rv;obtain⟨L,hL,rfl⟩:=rv
  simp only[a8,d7]at e
  obtain⟨rfl,rfl⟩:=e
  exact⟨β,.tuple #[],w,rfl,⟨_,rfl,rfl⟩,r,.refl _ _⟩
 ·rename_i t b
  obtain⟨v,rfl,rv⟩:=ra.inv1
  simp only[VR]at rv;obtain⟨y,rfl,L,hL,rfl⟩:=rv
  split at e
  ·rename_i es c hg
   simp only[a8,d7]at e;obtain⟨rfl,rfl⟩:=e
   obtain⟨E,h1,h2⟩:=r.map hg hL
   have hle:Le β (β.add h.next ⟨w.heap.size,0,0⟩):=by
    intro b' M hb'
    simp only[Bij.add]
    by_cases e:b'=h.next
    ·subst e;rw[r.fresh _ (b9 _)]at hb';cases hb'
    ·rw[if_neg e];exact hb'
   obtain⟨p1,p2⟩:=r.new (.map E c) (.map es c) 0 0 ⟨E,rfl,h2.mono hle⟩
   refine⟨_,.iface t (.map (some w.heap.size)),_,?_,⟨_,rfl,_,Bij.add_self _ _ _,rfl⟩,p1,p2⟩
   show(do
    let .map entries clock ←getObj L.blk|Go.stuck "maps.clone: a map expected"
    pure (.iface t (.map (some (←newObj (.map entries clock))))):Sem Value).run P w=_
   simp only[Sem.run_bind,O7 h1,Result.andThen_ok,run_newObj,Sem.run_pure]
   rfl
  ·cases e
 ·obtain⟨v,rfl,rv⟩:=ra.inv1
  simp only[a8,d7]at e;obtain⟨rfl,rfl⟩:=e
  exact⟨β,v,w,Lib.run_noEscape w v,rv,r,.refl _ _⟩
 ·rename_i l c
  obtain⟨v,u,rfl,rv,ru⟩:=ra.inv2
  simp only[VR]at rv ru;subst rv ru
  simp only[j6]at e
  obtain⟨n,hn,e⟩:=e
  obtain⟨hc,e⟩:=M7 e
  rw[N9]at hc
  simp only[a8,d7]at e;obtain⟨rfl,rfl⟩:=e
  have hn:=aj5 hn
  subst hn
  have hrun:=Lib.run_countString (P:=P) ⟨l.toArray⟩ (n:Int) w
  refine⟨β,_,w,hrun,?_,r,.refl _ _⟩
  show Value.int .i64 _=Value.int .i64 _
  rw[aI3 hc];rfl
 ·rename_i l c
  obtain⟨v,u,rfl,rv,ru⟩:=ra.inv2
  simp only[VR]at rv ru;subst rv ru
  simp only[j6]at e
  obtain⟨n,hn,e⟩:=e
  obtain⟨hc,e⟩:=M7 e
  rw[N9]at hc
  simp only[a8,d7]at e;obtain⟨rfl,rfl⟩:=e
  have hn:=aj5 hn
  subst hn
  have hrun:=Lib.run_indexByteString (P:=P) ⟨l.toArray⟩ (n:Int) w
  refine⟨β,_,w,hrun,?_,r,.refl _ _⟩
  show Value.int .i64 _=Value.int .i64 _
  rw[ba9 hc];rfl
 ·cases e
end Go.Ev
