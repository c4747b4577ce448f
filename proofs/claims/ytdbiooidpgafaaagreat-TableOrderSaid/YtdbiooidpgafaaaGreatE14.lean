import Derived.Test.YtdbiooidpgafaaaGreatE13b
set_option linter.unusedVariables false
set_option linter.unusedSimpArgs false
namespace Go.Ev
open Go
variable{P:Program}{β:Bij}{ω:Opq}{K:Nat→Prop}{w0 w:World}{h h':Heap}
theorem be5: ∀{l:List Nat} {s:Nat},bz8 l=some s→l.toArray.back? =some s
 | [],s,e=>by cases e
 | [x],s,e=>by simp only[bz8,b9]at e;subst e;rfl
 |x::y::r,s,e=>by
  have ih:=be5 (l:=y::r) (s:=s) e
  simp only[List.back?_toArray]at ih⊢
  rw[List.getLast?_cons_cons];exact ih
theorem c15{it a:AV}{vi:Value}(r:HR β ω K w0 h w)(e:bz9 it h=some a)(ri:VR β ω it vi): ∃v,VR β ω a v∧(Instr.entry vi).run P w= .ok v w:=by
 unfold bz9 at e
 split at e
 ·rename_i b
  simp only[VR]at ri;obtain⟨L,hL,rfl⟩:=ri
  split at e
  ·rename_i m since seen stepped hg
   obtain⟨h0,m',h1,h2⟩:=r.iter hg hL
   simp only[IR]at h2;obtain⟨Lm,hLm,rfl⟩:=h2
   split at e
   ·rename_i s es c hs hgm
    replace e:=P7 e
    obtain⟨hc,e⟩:=e
    rw[P9]at hc;subst hc
    simp only[l5]at e
    obtain⟨⟨i,en⟩,hf,rfl⟩:=e
    obtain⟨E,g1,g2⟩:=r.map hgm hLm
    obtain⟨j,k,v,e1,e2,e3,e4,e5,e6,e7⟩:=aL6 g2 0 hf
    obtain⟨-,q1⟩:=e7 (fun x=>x.born==s) (fun x=>by simp)
    have q2:E.find? (fun x=>x.born==s)=some ⟨k,v,en.born⟩:=by rw[←Array.find?_toList];exact q1
    have hb:=be5 hs
    refine⟨.tuple #[k,v],⟨_,rfl,.cons e4 (.one e5)⟩,?_⟩
    have hcc:(c !=c)=false:=by simp
    simp only[h0,Nat.add_zero,Instr.entry,Sem.run_bind,ar2 h1,Result.andThen_ok,hb,S6 g1,hcc,k7,if_false,Sem.run_pure,q2]
   ·cases e
  ·cases e
 ·cases e
theorem aU8{x a:AV}{xt t:TypeId}{ok:Bool}{vx:Value}(e:af8 P x t ok=some a)(rx:VR β ω x vx): ∃v,VR β ω a v∧ ∀w,(Instr.typeAssert vx xt t ok).run P w= .ok v w:=by
 have fails:bA0 P t ok=some a→ok=true∧ ∃z,VR β ω a (.tuple #[z,.bool false])∧ ∀w,(zeroValue t).run P w= .ok z w:=by
  intro e
  unfold bA0 at e
  obtain⟨hok,e⟩:=P7 e
  simp only[l5]at e
  obtain⟨z,hz,rfl⟩:=e
  obtain⟨zv,z1,z2⟩:=az7 hz
  exact⟨hok,zv,⟨_,rfl,.cons (z1 _ _) (.one rfl)⟩,z2⟩
 have holds: ∀(y:AV) (v:Value),VR β ω y v→bU1 ok y=some a→VR β ω a (if ok then .tuple #[v,.bool true]else v):=by
  intro y v hv e
  unfold bU1 at e
  simp only[b9]at e;subst e
  cases ok
  ·exact hv
  ·exact⟨_,rfl,.cons hv (.one rfl)⟩
 unfold af8 at e
 cases hd:P.underlying t with
 |none=>rw[hd]at e;cases e
 |some d=>
  rw[hd]at e
  cases d with
  |interface m=>cases e
  |_=>
   simp only[]at e
   split at e
   ·obtain⟨rfl,z,z1,z2⟩:=fails e
    simp only[VR]at rx;subst rx
    exact⟨_,z1,fun w=>by simp only[Instr.typeAssert,Sem.run_bind,Q0 hd,Result.andThen_ok,if_true,z2,Sem.run_pure]⟩
   ·rename_i ty y
    simp only[VR]at rx;obtain⟨v,rfl,rv⟩:=rx
    cases ht:Nat.beq ty t with
    |true=>
     rw[ht]at e
     rw[P9]at ht;subst ht
     exact⟨_,holds y v rv e,fun w=>by simp only[Instr.typeAssert,Sem.run_bind,Q0 hd,Result.andThen_ok,if_true,Sem.run_pure]⟩
    |false=>
     rw[ht]at e
     obtain⟨rfl,z,z1,z2⟩:=fails e
     have hne: ¬ty=t:=fun hh=>by rw[P9.2 hh]at ht;cases ht
     exact⟨_,z1,fun w=>by simp only[Instr.typeAssert,Sem.run_bind,Q0 hd,Result.andThen_ok,if_neg hne,if_true,z2,Sem.run_pure]⟩
   ·cases e
theorem cn9{s d:TypeId}{x a:AV}{vx:Value}(hfx: ∀t,ω.fix t=aG2 P t)(r:HR β ω K w0 h w)(e:bL5 P s d x h=some (a,h'))(rx:VR β ω x vx):Ok P β ω K w0 w h (convert s d vx) a h':=by
 unfold bL5 at e
 split at e
 ·rename_i sd k k' n hs hd
  simp only[b9,i3]at e;obtain⟨rfl,rfl⟩:=e
  simp only[VR]at rx;subst rx
  refine⟨β,.int k (k.wrap n),w,?_,by rw[a35];rfl,r,.refl _ _⟩
  simp only[convert,Sem.run_bind,Q0 hs,Q0 hd,Result.andThen_ok]
  rfl
 ·rename_i sd l hs hd
  simp only[b9,i3]at e;obtain⟨rfl,rfl⟩:=e
  simp only[VR]at rx;subst rx
  refine⟨β,_,w,?_,rfl,r,.refl _ _⟩
  simp only[convert,Sem.run_bind,Q0 hs,Q0 hd,Result.andThen_ok,Sem.run_pure]
 ·rename_i el x hs hd _
  simp only[l5,i3]at e
  obtain⟨l,hl,rfl,rfl⟩:=e
  exact⟨β,_,w,c10 hs hd r hl rx,rfl,r,.refl _ _⟩
 ·rename_i t b o hs hd
  exact br4 hs hd r e rx
 ·rename_i t b o hs hd
  exact br6 hfx hs hd r e rx
 ·cases e
theorem co0{s d:TypeId}{x a:AV}{vx:Value}(r:HR β ω K w0 h w)(e:bU4 P s d x h=some (a,h'))(rx:VR β ω x vx):Ok P β ω K w0 w h (convert s d vx) a h':=by
 unfold bU4 at e
 split at e
 ·rename_i el l hs hd
  exact c11 hs hd r e rx
 ·cases e
theorem cJ0{ts:Array TypeId}{ty n:Nat}{x:AV}{vx:Value}(r:HR β ω K w0 h w)(e:de8 P ((ts[0]?).bind P.underlying) x h=some n)(rx:VR β ω x vx):
 (Builtin.len_ ts ty #[vx]).run P w= .ok (goInt n) w:=by
 unfold de8 at e
 split at e
 ·rename_i ht
  simp only[l7]at ht
  obtain⟨t,h0,ht⟩:=ht
  split at e
  ·simp only[b9]at e;subst e
   simp only[VR]at rx;subst rx
   simp[Builtin.len_,h0,Q0 ht]
   rfl
  ·cases e
 ·rename_i el ht
  simp only[l7]at ht
  obtain⟨t,h0,ht⟩:=ht
  cases hi:bU5 x with
  |true=>rw[hi]at e;cases e
  |false=>
   rw[hi]at e
   rcases cn2 e rx with⟨b,c,rfl⟩|⟨l,rfl⟩
   ·simp[Builtin.len_,h0,Q0 ht]
   ·simp[bU5]at hi
 ·rename_i kt et ht
  simp only[l7]at ht
  obtain⟨t,h0,ht⟩:=ht
  split at e
  ·simp only[b9]at e;subst e
   simp only[VR]at rx;subst rx
   simp[Builtin.len_,h0,Q0 ht]
  ·split at e
   ·rename_i b es c hg
    simp only[b9]at e;subst e
    simp only[VR]at rx;obtain⟨L,hL,rfl⟩:=rx
    obtain⟨E,h1,h2⟩:=r.map hg hL
    have:=h2.length
    simp only[Array.length_toList]at this
    simp[Builtin.len_,h0,Q0 ht,S6 h1,this]
   ·cases e
  ·cases e
 ·cases e
theorem be6{ts:Array TypeId}{t ty elem b o n cap:Nat}{a:AV}{L:Loc}(h0:ts[0]? =some t)(ht:P.underlying t=some (.slice elem))(r:HR β ω K w0 h w)(e:bA2 P elem b o n h=some (a,h'))(hL:β b=some L):
 Ok P β ω K w0 w h (Builtin.clear_ ts ty #[.slice (some ⟨L.blk,L.off+o,none⟩) n cap]) a h':=by
 unfold bA2 at e
 split at e
 ·simp only[b9,i3]at e;obtain⟨rfl,rfl⟩:=e
  exact⟨β,.tuple #[],w,by simp[Builtin.clear_,h0,Q0 ht],⟨_,rfl,rfl⟩,r,.refl _ _⟩
 ·rename_i hn
  split at e
  ·rename_i z hz
   obtain⟨hp,e⟩:=P7 e
   rw[R1]at hp
   simp only[l5,i3]at e
   obtain⟨h1,he,rfl,rfl⟩:=e
   obtain⟨zv,hzv,hzr⟩:=a26 hz
   have rz:VRs β ω z.cells zv.cells.toList:=VR.cells' (a60 hzv) (ae5 hzv)
   have hzs:zv.cells.size=z.cells.length:=by have:=rz.length;simpa using this
   obtain⟨p1,p2,p3⟩:=aa5 (P:=P) r he hL (au4 rz (by omega) n)
   refine⟨β,.tuple #[],_,?_,⟨_,rfl,rfl⟩,p2,p3⟩
   obtain⟨m,rfl⟩: ∃m,n=m+1:=⟨n-1,by have:n≠0:=fun hh=>hn hh;omega⟩
   simp only[Builtin.clear_,h0,Sem.run_bind,Q0 ht,Result.andThen_ok,F9,List.getElem?_cons_zero,hzr,p1,Sem.run_pure]
  ·cases e
theorem c16{ts:Array TypeId}{ty:Nat}{x a:AV}{vx:Value}(r:HR β ω K w0 h w)(e:bU6 P ((ts[0]?).bind P.underlying) x h=some (a,h'))(rx:VR β ω x vx):Ok P β ω K w0 w h (Builtin.clear_ ts ty #[vx]) a h':=by
 unfold bU6 at e
 split at e
 ·rename_i elem ht
  simp only[l7]at ht
  obtain⟨t,h0,ht⟩:=ht
  split at e
  ·simp only[b9,i3]at e;obtain⟨rfl,rfl⟩:=e
   simp only[VR]at rx;subst rx
   exact⟨β,.tuple #[],w,by simp[Builtin.clear_,h0,Q0 ht],⟨_,rfl,rfl⟩,r,.refl _ _⟩
  ·simp only[VR]at rx;obtain⟨L,hL,rfl⟩:=rx
   exact be6 h0 ht r e hL
  ·simp only[VR]at rx;obtain⟨L,c,hL,_,rfl⟩:=rx
   exact be6 h0 ht r e hL
  ·cases e
 ·rename_i kt et ht
  simp only[l7]at ht
  obtain⟨t,h0,ht⟩:=ht
  split at e
  ·simp only[b9,i3]at e;obtain⟨rfl,rfl⟩:=e
   simp only[VR]at rx;subst rx
   exact⟨β,.tuple #[],w,by simp[Builtin.clear_,h0,Q0 ht],⟨_,rfl,rfl⟩,r,.refl _ _⟩
  ·rename_i b
   split at e
   ·rename_i es c hg
    replace e:=P7 e
    obtain⟨hwm,e⟩:=e
    rw[Q2]at hwm
    simp only[b9,i3]at e;obtain⟨rfl,rfl⟩:=e
    simp only[VR]at rx;obtain⟨L,hL,rfl⟩:=rx
    obtain⟨E,h1,h2⟩:=r.map hg hL
    obtain⟨p1,p2⟩:=r.set1 b _ (.map [] c) L (.map #[] c) hg hL hwm ⟨#[],rfl,.nil⟩
    refine⟨β,.tuple #[],_,?_,⟨_,rfl,rfl⟩,p1,p2⟩
    simp only[Builtin.clear_,h0,Sem.run_bind,Q0 ht,Result.andThen_ok,F9,List.getElem?_cons_zero,S6 h1,W5 _ h1,Sem.run_pure]
   ·cases e
  ·cases e
 ·cases e
theorem VRs.inv1{a:AV}{us:Array Value}(r:VRs β ω [a] us.toList): ∃v,us= #[v]∧VR β ω a v:=by
 obtain⟨v,vr,e,p,q⟩:=r
 rw[show vr=[]from q]at e
 exact⟨v,by rw[←D7];simpa using e,p⟩
theorem VRs.inv2{a b:AV}{us:Array Value}(r:VRs β ω [a,b] us.toList): ∃v u,us= #[v,u]∧VR β ω a v∧VR β ω b u:=by
 obtain⟨v,vr,e,p,u,ur,e2,q,t⟩:=r
 rw[show ur=[]from t]at e2
 subst e2
 exact⟨v,u,by rw[←D7];simpa using e,p,q⟩
theorem cJ1{x a:AV}{v:Value}(r:HR β ω K w0 h w)(e:df0 x h=some a)(rx:VR β ω x v): ∃p n c,v= .slice p n c∧VR β ω a (.int .i64 (c:Nat)):=by
 unfold df0 at e
 split at e
 ·simp only[b9]at e;subst e
  simp only[VR]at rx;subst rx
  exact⟨_,_,_,rfl,rfl⟩
 ·simp only[b9]at e;subst e
  simp only[VR]at rx;obtain⟨p,rfl⟩:=rx
  exact⟨_,_,_,rfl,rfl⟩
 ·simp only[b9]at e;subst e
  simp only[VR]at rx;obtain⟨L,_,rfl⟩:=rx
  exact⟨_,_,_,rfl,rfl⟩
 ·rename_i b o n sz
  split at e
  ·rename_i el fz cs hg
   replace e:=P7 e
   obtain⟨hc,e⟩:=e
   obtain⟨h1,h2⟩:=P8 hc
   rw[R1]at h1
   rw[Q2]at h2
   simp only[b9]at e;subst e
   simp only[VR]at rx;obtain⟨L,c,hL,hx,rfl⟩:=rx
   obtain⟨C,lo,hi,vs,q1,q2,q3,q4⟩:=r.cells hg hL
   refine⟨_,_,_,rfl,(c:Nat),rfl,?_⟩
   have:(cs.length-o)/sz≤c:=by
    rw[←Nat.mul_div_cancel c h1]
    exact Nat.div_le_div_right (by omega)
   exact Int.ofNat_le.2 this
  ·cases e
 ·cases e
theorem ar4{b:Builtin}{ts:Array TypeId}{ty:TypeId}{cs:Array Bool}{args:List AV}{us:Array Value}{a:AV}(hfx: ∀t,ω.fix t=aG2 P t)(r:HR β ω K w0 h w)(e:at5 P b ts args h=some (a,h'))(ra:VRs β ω args us.toList):
 ∃β' v w',(builtin b ts ty cs us).run P w= .ok (.value v) w'∧VR β' ω a v∧HR β' ω K w0 h' w'∧St h β h' β':=by
 have lift: ∀{m:Sem Value},Ok P β ω K w0 w h m a h'→ ∃β' v w',(do pure (.value (←m)):Sem Next).run P w= .ok (.value v) w'∧VR β' ω a v∧HR β' ω K w0 h' w'∧St h β h' β':=by
  intro m ⟨β',v,w',h1,h2,h3,h4⟩
  exact⟨β',v,w',by simp only[Sem.run_bind,h1,Result.andThen_ok,Sem.run_pure],h2,h3,h4⟩
 unfold at5 at e
 split at e
 ·simp only[l5,i3]at e
  obtain⟨n,hn,rfl,rfl⟩:=e
  obtain⟨v,rfl,rv⟩:=ra.inv1
  exact lift ⟨β,_,w,cJ0 r hn rv,rfl,r,.refl _ _⟩
 ·obtain⟨v,u,rfl,rv,ru⟩:=ra.inv2
  exact lift (bN3 hfx r e rv ru)
 ·obtain⟨v,u,rfl,rv,ru⟩:=ra.inv2
  exact lift (cn3 r e rv ru)
 ·obtain⟨v,rfl,rv⟩:=ra.inv1
  exact lift (c16 r e rv)
 ·obtain⟨v,u,rfl,rv,ru⟩:=ra.inv2
  split at e
  ·rename_i t h0
   simp only[l5,i3]at e
   obtain⟨h1,he,rfl,rfl⟩:=e
   obtain⟨w',d1,d2,d3⟩:=bN5 (ty:=ty) h0 r he rv ru
   exact lift ⟨β,_,w',d1,⟨_,rfl,rfl⟩,d2,d3⟩
  ·cases e
 ·obtain⟨v,rfl,rv⟩:=ra.inv1
  exact lift (bN7 r e rv)
 ·obtain⟨v,u,rfl,rv,ru⟩:=ra.inv2
  simp only[VR]at ru;subst ru
  exact lift (cI9 r e rv)
 ·obtain⟨v,rfl,rv⟩:=ra.inv1
  split at e
  ·rename_i el hu
   simp only[l5,i3]at e
   obtain⟨a0,he,rfl,rfl⟩:=e
   obtain⟨p,n,c,rfl,rc⟩:=cJ1 r he rv
   refine lift ⟨β,.int .i64 (c:Nat),w,?_,rc,r,.refl _ _⟩
   cases ht:ts[0]? with
   |none=>rw[ht]at hu;cases hu
   |some t=>
    rw[ht]at hu
    have hu:P.underlying t=some (.slice el):=hu
    simp[Builtin.cap_,ht,Sem.run_bind,run_underlying hu,goInt]
  ·cases e
 ·obtain⟨v,u,rfl,rv,ru⟩:=ra.inv2
  simp only[VR]at rv ru;subst rv ru
  simp only[b9,i3]at e;obtain⟨rfl,rfl⟩:=e
  rename_i k x k' y
  refine lift ⟨β,.int k (if y>x then y else x),w,?_,?_,r,.refl _ _⟩
  ·simp[Builtin.max_,Builtin.max2]
  ·rw[aa3]
   by_cases hh:x<y
   ·simp[VR,hh]
   ·simp[VR,hh]
 ·obtain⟨v,u,rfl,rv,ru⟩:=ra.inv2
  simp only[VR]at rv ru;subst rv ru
  simp only[b9,i3]at e;obtain⟨rfl,rfl⟩:=e
  rename_i k x k' y
  refine lift ⟨β,.int k (if y<x then y else x),w,?_,?_,r,.refl _ _⟩
  ·simp[Builtin.min_,Builtin.min2]
  ·rw[aa3]
   by_cases hh:y<x
   ·simp[VR,hh]
   ·simp[VR,hh]
 ·cases e
noncomputable def Ext.model:Ext→Array Value→Sem Value
 | .ident=>Extern.AbiNoEscape.same
 | .count=>Extern.BytealgCount.count
 | .indexByte=>Extern.BytealgIndexByte.indexByte
 | .overlaps t r=>Extern.SlicesOverlaps.overlaps #[t,t] #[r]
 | .makeNoZero t=>Extern.BytealgMakeNoZero.makeNoZero #[] #[t]
theorem c17{x:AV}{v:Value}{b o:Nat}(e:cU5 x=some (b,o))(rx:VR β ω x v): ∃L n c,β b=some L∧v= .slice (some ⟨L.blk,L.off+o,none⟩) n c:=by
 unfold cU5 at e
 split at e
 ·simp only[b9,i3]at e;obtain⟨rfl,rfl⟩:=e
  simp only[VR]at rx;obtain⟨L,hL,rfl⟩:=rx
  exact⟨L,_,_,hL,rfl⟩
 ·simp only[b9,i3]at e;obtain⟨rfl,rfl⟩:=e
  simp only[VR]at rx;obtain⟨L,c,hL,_,rfl⟩:=rx
  exact⟨L,_,_,hL,rfl⟩
 ·cases e
theorem be7(a b:Addr)(w:World): ∃m,(mayBeOne a b).run P w= .ok m w:=by
 have hs: ∀x:Addr,∃m,(stringish x).run P w= .ok m w:=by
  intro x
  unfold stringish
  simp only[Sem.run_bind,run_frozen,Result.andThen_ok]
  cases w.frozen? x with
  |true=>exact⟨_,rfl⟩
  |false=>
   simp only[k7,if_false,Sem.run_bind,run_shape,Result.andThen_ok,Sem.run_pure]
   cases w.shape? x.block with
   |none=>exact⟨_,rfl⟩
   |some p=>exact⟨_,rfl⟩
 obtain⟨m1,h1⟩:=hs a
 obtain⟨m2,h2⟩:=hs b
 unfold mayBeOne
 simp only[Sem.run_bind,h1,h2,run_shape,Result.andThen_ok,Sem.run_pure]
 exact⟨_,rfl⟩
theorem aL8(q:Question)(w:World): ∃n w',(choose q).run P w= .ok n w'∧(w'=w∨w'=w.drew):=by
 rw[run_choose]
 split
 ·exact⟨_,_,rfl,.inl rfl⟩
 ·exact⟨_,_,rfl,.inr rfl⟩
theorem co1{t rt e:TypeId}{size:Nat}(ht:P.underlying t=some (.slice e))(hz:ae2 P e=some size){a b:Addr}(la ca lb cb:Nat)(hne:a.block≠b.block)
 {tA tB:TypeId} {kA kB:Nat} (hsa:w.shape? a.block=some (tA,kA)) (hsb:w.shape? b.block=some (tB,kB)) (hfa:w.frozen? a=false):
 ∃c w',(Extern.SlicesOverlaps.overlaps #[t,t] #[rt] #[.slice (some a) la ca,.slice (some b) lb cb]).run P w= .ok (.bool c) w'∧(w'=w∨w'=w.drew):=by
 have hnb:(a.block !=b.block)=true:=by simpa using hne
 obtain⟨m,hm⟩:=be7 (P:=P) a b w
 obtain⟨n,w1,hn,hw⟩:=aL8 (P:=P) (.extern "sameAddr.stringBytes" 2) w
 have hv: ∀x:Addr,∀p,w.shape? x.block=some p→(noView x).run P w= .ok () w:=by
  intro x p hp
  simp only[noView,viewAt,Sem.run_bind,run_shape,Result.andThen_ok,hp,Option.isSome_some,if_true,Sem.run_pure,Option.isSome_none,k7,if_false]
 delta Extern.SlicesOverlaps.overlaps Extern.SlicesOverlaps.overlaps.match_4 Extern.SlicesOverlaps.overlaps._sparseCasesOn_4
 rw[dif_pos (show(#[Value.slice (some a) la ca,Value.slice (some b) lb cb]:Array Value).size=2 from rfl)]
 dsimp only[Array.getLit,List.getElem_toArray,List.getElem_cons_zero,List.getElem_cons_succ]
 simp only[F9,List.getElem?_cons_zero,Sem.run_bind,Result.andThen_ok,Q0 ht,R2 hz,Sem.run_pure]
 by_cases h0:la=0∨lb=0∨size=0
 ·rw[if_pos h0];exact⟨_,_,rfl,.inl rfl⟩
 ·rw[if_neg h0]
  simp only[hnb,if_true,B5,Sem.run_bind,run_frozen,Result.andThen_ok,hfa,l9,k7,if_false,hv a _ hsa,hv b _ hsb,hm]
  cases m with
  |true=>
   simp only[if_true,Sem.run_bind,hn,Result.andThen_ok,Sem.run_pure]
   exact⟨_,_,rfl,hw⟩
  |false=>
   simp only[k7,if_false,Sem.run_pure,Result.andThen_ok]
   exact⟨_,_,rfl,.inl rfl⟩
theorem co2{t rt:TypeId}{args:List AV}{us:Array Value}(r:HR β ω K w0 h w)(ra:VRs β ω args us.toList):
 bL7 t P args h= .bad∨ ∃l,bL7 t P args h= .choice l∧ ∃x∈l,Ok P β ω K w0 w h ((Ext.overlaps t rt).model us) x.1 x.2:=by
 unfold bL7
 split
 ·rename_i x y
  obtain⟨v,u,rfl,rv,ru⟩:=ra.inv2
  split
  ·rename_i e ht
   split
   ·rename_i s hz
    cases hap:cF6 (cU5 x) (cU5 y) h with
    |false=>exact .inl rfl
    |true=>
     refine .inr ⟨_,rfl,?_⟩
     unfold cF6 at hap
     split at hap
     ·rename_i p q hp hq
      obtain⟨p1,p2⟩:=p
      obtain⟨q1,q2⟩:=q
      obtain⟨g1,g2⟩:=P8 hap
      split at g2
      ·rename_i e1 fz cs e2 fz2 cs2 hg1 hg2
       obtain⟨g3,g4⟩:=P8 g2
       rw[Q2]at g3
       rw[R1]at g4
       have hne:p1≠q1:=by
        rintro rfl
        simp at g1
       obtain⟨L,n,c,hL,rfl⟩:=c17 hp rv
       obtain⟨M,n2,c2,hM,rfl⟩:=c17 hq ru
       have hsep:=r.sep _ _ _ _ _ _ hg1 hg2 hL hM hne (.inr (.inr (.inl rfl)))
       obtain⟨C,lo,hi,vs,a1,a2,a3,a4,a5,a6,a7⟩:=r.cells hg1 hL
       obtain⟨C2,lo2,hi2,vs2,b1,b2,b3,b4,b5,b6,b7⟩:=r.cells hg2 hM
       obtain⟨d,w',hd,hw⟩:=co1 (w:=w) (rt:=rt) ht hz n c n2 c2 (a:=⟨L.blk,L.off+p2,none⟩) (b:=⟨M.blk,M.off+q2,none⟩) hsep
        (by simp only[World.shape?,a1];rfl) (by simp only[World.shape?,b1];rfl) (ae4 a1 (a7 p2 g3 (by simp only[]at g4;omega)))
       refine⟨(.bool d,h),by cases d<;>simp,β,.bool d,w',hd,rfl,?_,.refl _ _⟩
       rcases hw with rfl|rfl
       ·exact r
       ·exact r.drew
      ·cases g2
     ·cases hap
   ·exact .inl rfl
  ·exact .inl rfl
 ·exact .inl rfl
theorem cJ2{x:Ext}{args:List AV}{us:Array Value}{a:AV}(r:HR β ω K w0 h w)(e:cX2 P x args h=some (a,h'))(ra:VRs β ω args us.toList):Ok P β ω K w0 w h (x.model us) a h':=by
 unfold cX2 at e
 split at e
 ·obtain⟨v,rfl,rv⟩:=ra.inv1
  simp only[b9,i3]at e;obtain⟨rfl,rfl⟩:=e
  exact⟨β,v,w,Lib.run_noEscape w v,rv,r,.refl _ _⟩
 ·rename_i l c
  obtain⟨v,u,rfl,rv,ru⟩:=ra.inv2
  simp only[VR]at rv ru;subst rv ru
  simp only[l7]at e
  obtain⟨n,hn,e⟩:=e
  obtain⟨hc,e⟩:=P7 e
  rw[R1]at hc
  simp only[b9,i3]at e;obtain⟨rfl,rfl⟩:=e
  have hn:=aH0 hn
  subst hn
  have hrun:=Lib.run_countString (P:=P) ⟨l.toArray⟩ (n:Int) w
  refine⟨β,_,w,hrun,?_,r,.refl _ _⟩
  show Value.int .i64 _=Value.int .i64 _
  rw[be4 hc];rfl
 ·rename_i l c
  obtain⟨v,u,rfl,rv,ru⟩:=ra.inv2
  simp only[VR]at rv ru;subst rv ru
  simp only[l7]at e
  obtain⟨n,hn,e⟩:=e
  obtain⟨hc,e⟩:=P7 e
  rw[R1]at hc
  simp only[b9,i3]at e;obtain⟨rfl,rfl⟩:=e
  have hn:=aH0 hn
  subst hn
  have hrun:=Lib.run_indexByteString (P:=P) ⟨l.toArray⟩ (n:Int) w
  refine⟨β,_,w,hrun,?_,r,.refl _ _⟩
  show Value.int .i64 _=Value.int .i64 _
  rw[c14 hc];rfl
 ·cases e
end Go.Ev
