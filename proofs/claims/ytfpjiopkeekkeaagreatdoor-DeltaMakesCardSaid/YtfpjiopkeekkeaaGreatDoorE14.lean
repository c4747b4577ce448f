import Derived.Test.YtfpjiopkeekkeaaGreatDoorE13b
set_option autoImplicit false
set_option linter.unusedVariables false
set_option linter.unusedSimpArgs false
namespace Go.Ev
open Go
variable{P:Program}{β:Bij}{ω:Opq}{K:Nat→Prop}{w0 w:World}{h h':Heap}
theorem bf0: ∀{l:List Nat} {s:Nat},bx9 l=some s→l.toArray.back? =some s
 | [],s,e=>by cases e
 | [x],s,e=>by simp only[bx9,a8]at e;subst e;rfl
 |x::y::r,s,e=>by
  have ih:=bf0 (l:=y::r) (s:=s) e
  simp only[List.back?_toArray]at ih⊢
  rw[List.getLast?_cons_cons];exact ih
theorem bY7{it a:AV}{vi:Value}(r:HR β ω K w0 h w)(e:by0 it h=some a)(ri:VR β ω it vi): ∃v,VR β ω a v∧(Instr.entry vi).run P w= .ok v w:=by
 unfold by0 at e
 split at e
 ·rename_i b
  simp only[VR]at ri;obtain⟨L,hL,rfl⟩:=ri
  split at e
  ·rename_i m since seen stepped hg
   obtain⟨h0,m',h1,h2⟩:=r.iter hg hL
   simp only[IR]at h2;obtain⟨Lm,hLm,rfl⟩:=h2
   split at e
   ·rename_i s es c hs hgm
    replace e:=O5 e
    obtain⟨hc,e⟩:=e
    rw[O6]at hc;subst hc
    simp only[l5]at e
    obtain⟨⟨i,en⟩,hf,rfl⟩:=e
    obtain⟨E,g1,g2⟩:=r.map hgm hLm
    obtain⟨j,k,v,e1,e2,e3,e4,e5,e6,e7⟩:=aM8 g2 0 hf
    obtain⟨-,q1⟩:=e7 (fun x=>x.born==s) (fun x=>by simp)
    have q2:E.find? (fun x=>x.born==s)=some ⟨k,v,en.born⟩:=by rw[←Array.find?_toList];exact q1
    have hb:=bf0 hs
    refine⟨.tuple #[k,v],⟨_,rfl,.cons e4 (.one e5)⟩,?_⟩
    have hcc:(c !=c)=false:=by simp
    simp only[h0,Nat.add_zero,Instr.entry,Sem.run_bind,as4 h1,Result.andThen_ok,hb,R2 g1,hcc,j9,if_false,Sem.run_pure,q2]
   ·cases e
  ·cases e
 ·cases e
theorem aX2{x a:AV}{xt t:TypeId}{ok:Bool}{vx:Value}(e:af9 P x t ok=some a)(rx:VR β ω x vx): ∃v,VR β ω a v∧ ∀w,(Instr.typeAssert vx xt t ok).run P w= .ok v w:=by
 have fails:by1 P t ok=some a→ok=true∧ ∃z,VR β ω a (.tuple #[z,.bool false])∧ ∀w,(zeroValue t).run P w= .ok z w:=by
  intro e
  unfold by1 at e
  obtain⟨hok,e⟩:=O5 e
  simp only[l5]at e
  obtain⟨z,hz,rfl⟩:=e
  obtain⟨zv,z1,z2⟩:=as3 hz
  exact⟨hok,zv,⟨_,rfl,.cons (z1 _ _) (.one rfl)⟩,z2⟩
 have holds: ∀(y:AV) (v:Value),VR β ω y v→bR4 ok y=some a→VR β ω a (if ok then .tuple #[v,.bool true]else v):=by
  intro y v hv e
  unfold bR4 at e
  simp only[a8]at e;subst e
  cases ok
  ·exact hv
  ·exact⟨_,rfl,.cons hv (.one rfl)⟩
 unfold af9 at e
 cases hd:P.underlying t with
 |none=>rw[hd]at e;cases e
 |some d=>
  rw[hd]at e
  cases d with
  |interface m=>cases e
  |_=>
   simp only[]at e
   split at e
   ·obtain⟨rfl,z,z1,z2⟩:=fails e
    simp only[VR]at rx;subst rx
    exact⟨_,z1,fun w=>by simp only[Instr.typeAssert,Sem.run_bind,O7 hd,Result.andThen_ok,if_true,z2,Sem.run_pure]⟩
   ·rename_i ty y
    simp only[VR]at rx;obtain⟨v,rfl,rv⟩:=rx
    cases ht:Nat.beq ty t with
    |true=>
     rw[ht]at e
     rw[O6]at ht;subst ht
     exact⟨_,holds y v rv e,fun w=>by simp only[Instr.typeAssert,Sem.run_bind,O7 hd,Result.andThen_ok,if_true,Sem.run_pure]⟩
    |false=>
     rw[ht]at e
     obtain⟨rfl,z,z1,z2⟩:=fails e
     have hne: ¬ty=t:=fun hh=>by rw[O6.2 hh]at ht;cases ht
     exact⟨_,z1,fun w=>by simp only[Instr.typeAssert,Sem.run_bind,O7 hd,Result.andThen_ok,if_neg hne,if_true,z2,Sem.run_pure]⟩
   ·cases e
theorem cj3{s d:TypeId}{x a:AV}{vx:Value}(hfx: ∀t,ω.fix t=av0 P t)(r:HR β ω K w0 h w)(e:bJ0 P s d x h=some (a,h'))(rx:VR β ω x vx):Ok P β ω K w0 w h (convert s d vx) a h':=by
 unfold bJ0 at e
 split at e
 ·rename_i sd k k' n hs hd
  simp only[a8,e9]at e;obtain⟨rfl,rfl⟩:=e
  simp only[VR]at rx;subst rx
  refine⟨β,.int k (k.wrap n),w,?_,by rw[a14];rfl,r,.refl _ _⟩
  simp only[convert,Sem.run_bind,O7 hs,O7 hd,Result.andThen_ok]
  rfl
 ·rename_i sd l hs hd
  simp only[a8,e9]at e;obtain⟨rfl,rfl⟩:=e
  simp only[VR]at rx;subst rx
  refine⟨β,_,w,?_,rfl,r,.refl _ _⟩
  simp only[convert,Sem.run_bind,O7 hs,O7 hd,Result.andThen_ok,Sem.run_pure]
 ·rename_i el x hs hd _
  simp only[l5,e9]at e
  obtain⟨l,hl,rfl,rfl⟩:=e
  exact⟨β,_,w,bY3 hs hd r hl rx,rfl,r,.refl _ _⟩
 ·rename_i t b o hs hd
  exact bq0 hs hd r e rx
 ·rename_i t b o hs hd
  exact bq2 hfx hs hd r e rx
 ·cases e
theorem cj4{s d:TypeId}{x a:AV}{vx:Value}(r:HR β ω K w0 h w)(e:bR7 P s d x h=some (a,h'))(rx:VR β ω x vx):Ok P β ω K w0 w h (convert s d vx) a h':=by
 unfold bR7 at e
 split at e
 ·rename_i el l hs hd
  exact bY4 hs hd r e rx
 ·cases e
theorem cD5{ts:Array TypeId}{ty n:Nat}{x:AV}{vx:Value}(r:HR β ω K w0 h w)(e:da9 P ((ts[0]?).bind P.underlying) x h=some n)(rx:VR β ω x vx):
 (Builtin.len_ ts ty #[vx]).run P w= .ok (goInt n) w:=by
 unfold da9 at e
 split at e
 ·rename_i ht
  simp only[k8]at ht
  obtain⟨t,h0,ht⟩:=ht
  split at e
  ·simp only[a8]at e;subst e
   simp only[VR]at rx;subst rx
   simp[Builtin.len_,h0,O7 ht]
   rfl
  ·cases e
 ·rename_i el ht
  simp only[k8]at ht
  obtain⟨t,h0,ht⟩:=ht
  cases hi:bR8 x with
  |true=>rw[hi]at e;cases e
  |false=>
   rw[hi]at e
   rcases ci6 e rx with⟨b,c,rfl⟩|⟨l,rfl⟩
   ·simp[Builtin.len_,h0,O7 ht]
   ·simp[bR8]at hi
 ·rename_i kt et ht
  simp only[k8]at ht
  obtain⟨t,h0,ht⟩:=ht
  split at e
  ·simp only[a8]at e;subst e
   simp only[VR]at rx;subst rx
   simp[Builtin.len_,h0,O7 ht]
  ·split at e
   ·rename_i b es c hg
    simp only[a8]at e;subst e
    simp only[VR]at rx;obtain⟨L,hL,rfl⟩:=rx
    obtain⟨E,h1,h2⟩:=r.map hg hL
    have:=h2.length
    simp only[Array.length_toList]at this
    simp[Builtin.len_,h0,O7 ht,R2 h1,this]
   ·cases e
  ·cases e
 ·cases e
theorem aN1{ts:Array TypeId}{t ty elem b o n cap:Nat}{a:AV}{L:Loc}(h0:ts[0]? =some t)(ht:P.underlying t=some (.slice elem))(r:HR β ω K w0 h w)(e:aY3 P elem b o n h=some (a,h'))(hL:β b=some L):
 Ok P β ω K w0 w h (Builtin.clear_ ts ty #[.slice (some ⟨L.blk,L.off+o,none⟩) n cap]) a h':=by
 unfold aY3 at e
 split at e
 ·simp only[a8,e9]at e;obtain⟨rfl,rfl⟩:=e
  exact⟨β,.tuple #[],w,by simp[Builtin.clear_,h0,O7 ht],⟨_,rfl,rfl⟩,r,.refl _ _⟩
 ·rename_i hn
  split at e
  ·rename_i z hz
   obtain⟨hp,e⟩:=O5 e
   rw[P9]at hp
   simp only[l5,e9]at e
   obtain⟨h1,he,rfl,rfl⟩:=e
   obtain⟨zv,hzv,hzr⟩:=a06 hz
   have rz:VRs β ω z.cells zv.cells.toList:=VR.cells' (a47 hzv) (ae4 hzv)
   have hzs:zv.cells.size=z.cells.length:=by have:=rz.length;simpa using this
   obtain⟨p1,p2,p3⟩:=aa0 (P:=P) r he hL (aw1 rz (by omega) n)
   refine⟨β,.tuple #[],_,?_,⟨_,rfl,rfl⟩,p2,p3⟩
   obtain⟨m,rfl⟩: ∃m,n=m+1:=⟨n-1,by have:n≠0:=fun hh=>hn hh;omega⟩
   simp only[Builtin.clear_,h0,Sem.run_bind,O7 ht,Result.andThen_ok,F6,List.getElem?_cons_zero,hzr,p1,Sem.run_pure]
  ·cases e
theorem bY8{ts:Array TypeId}{ty:Nat}{x a:AV}{vx:Value}(r:HR β ω K w0 h w)(e:bR9 P ((ts[0]?).bind P.underlying) x h=some (a,h'))(rx:VR β ω x vx):Ok P β ω K w0 w h (Builtin.clear_ ts ty #[vx]) a h':=by
 unfold bR9 at e
 split at e
 ·rename_i elem ht
  simp only[k8]at ht
  obtain⟨t,h0,ht⟩:=ht
  split at e
  ·simp only[a8,e9]at e;obtain⟨rfl,rfl⟩:=e
   simp only[VR]at rx;subst rx
   exact⟨β,.tuple #[],w,by simp[Builtin.clear_,h0,O7 ht],⟨_,rfl,rfl⟩,r,.refl _ _⟩
  ·simp only[VR]at rx;obtain⟨L,hL,rfl⟩:=rx
   exact aN1 h0 ht r e hL
  ·simp only[VR]at rx;obtain⟨L,c,hL,_,rfl⟩:=rx
   exact aN1 h0 ht r e hL
  ·cases e
 ·rename_i kt et ht
  simp only[k8]at ht
  obtain⟨t,h0,ht⟩:=ht
  split at e
  ·simp only[a8,e9]at e;obtain⟨rfl,rfl⟩:=e
   simp only[VR]at rx;subst rx
   exact⟨β,.tuple #[],w,by simp[Builtin.clear_,h0,O7 ht],⟨_,rfl,rfl⟩,r,.refl _ _⟩
  ·rename_i b
   split at e
   ·rename_i es c hg
    replace e:=O5 e
    obtain⟨hwm,e⟩:=e
    rw[P0]at hwm
    simp only[a8,e9]at e;obtain⟨rfl,rfl⟩:=e
    simp only[VR]at rx;obtain⟨L,hL,rfl⟩:=rx
    obtain⟨E,h1,h2⟩:=r.map hg hL
    obtain⟨p1,p2⟩:=r.set1 b _ (.map [] c) L (.map #[] c) hg hL hwm ⟨#[],rfl,.nil⟩
    refine⟨β,.tuple #[],_,?_,⟨_,rfl,rfl⟩,p1,p2⟩
    simp only[Builtin.clear_,h0,Sem.run_bind,O7 ht,Result.andThen_ok,F6,List.getElem?_cons_zero,R2 h1,S9 _ h1,Sem.run_pure]
   ·cases e
  ·cases e
 ·cases e
theorem VRs.inv1{a:AV}{us:Array Value}(r:VRs β ω [a] us.toList): ∃v,us= #[v]∧VR β ω a v:=by
 obtain⟨v,vr,e,p,q⟩:=r
 rw[show vr=[]from q]at e
 exact⟨v,by rw[←A3];simpa using e,p⟩
theorem VRs.inv2{a b:AV}{us:Array Value}(r:VRs β ω [a,b] us.toList): ∃v u,us= #[v,u]∧VR β ω a v∧VR β ω b u:=by
 obtain⟨v,vr,e,p,u,ur,e2,q,t⟩:=r
 rw[show ur=[]from t]at e2
 subst e2
 exact⟨v,u,by rw[←A3];simpa using e,p,q⟩
theorem cD6{x a:AV}{v:Value}(r:HR β ω K w0 h w)(e:db1 x h=some a)(rx:VR β ω x v): ∃p n c,v= .slice p n c∧VR β ω a (.int .i64 (c:Nat)):=by
 unfold db1 at e
 split at e
 ·simp only[a8]at e;subst e
  simp only[VR]at rx;subst rx
  exact⟨_,_,_,rfl,rfl⟩
 ·simp only[a8]at e;subst e
  simp only[VR]at rx;obtain⟨p,rfl⟩:=rx
  exact⟨_,_,_,rfl,rfl⟩
 ·simp only[a8]at e;subst e
  simp only[VR]at rx;obtain⟨L,_,rfl⟩:=rx
  exact⟨_,_,_,rfl,rfl⟩
 ·rename_i b o n sz
  split at e
  ·rename_i el fz cs hg
   replace e:=O5 e
   obtain⟨hc,e⟩:=e
   obtain⟨h1,h2⟩:=O4 hc
   rw[P9]at h1
   rw[P0]at h2
   simp only[a8]at e;subst e
   simp only[VR]at rx;obtain⟨L,c,hL,hx,rfl⟩:=rx
   obtain⟨C,lo,hi,vs,q1,q2,q3,q4⟩:=r.cells hg hL
   refine⟨_,_,_,rfl,(c:Nat),rfl,?_⟩
   have:(cs.length-o)/sz≤c:=by
    rw[←Nat.mul_div_cancel c h1]
    exact Nat.div_le_div_right (by omega)
   exact Int.ofNat_le.2 this
  ·cases e
 ·cases e
theorem as5{b:Builtin}{ts:Array TypeId}{ty:TypeId}{cs:Array Bool}{args:List AV}{us:Array Value}{a:AV}(hfx: ∀t,ω.fix t=av0 P t)(r:HR β ω K w0 h w)(e:av2 P b ts args h=some (a,h'))(ra:VRs β ω args us.toList):
 ∃β' v w',(builtin b ts ty cs us).run P w= .ok (.value v) w'∧VR β' ω a v∧HR β' ω K w0 h' w'∧St h β h' β':=by
 have lift: ∀{m:Sem Value},Ok P β ω K w0 w h m a h'→ ∃β' v w',(do pure (.value (←m)):Sem Next).run P w= .ok (.value v) w'∧VR β' ω a v∧HR β' ω K w0 h' w'∧St h β h' β':=by
  intro m ⟨β',v,w',h1,h2,h3,h4⟩
  exact⟨β',v,w',by simp only[Sem.run_bind,h1,Result.andThen_ok,Sem.run_pure],h2,h3,h4⟩
 unfold av2 at e
 split at e
 ·simp only[l5,e9]at e
  obtain⟨n,hn,rfl,rfl⟩:=e
  obtain⟨v,rfl,rv⟩:=ra.inv1
  exact lift ⟨β,_,w,cD5 r hn rv,rfl,r,.refl _ _⟩
 ·obtain⟨v,u,rfl,rv,ru⟩:=ra.inv2
  exact lift (bK5 hfx r e rv ru)
 ·obtain⟨v,u,rfl,rv,ru⟩:=ra.inv2
  exact lift (ci7 r e rv ru)
 ·obtain⟨v,rfl,rv⟩:=ra.inv1
  exact lift (bY8 r e rv)
 ·obtain⟨v,u,rfl,rv,ru⟩:=ra.inv2
  split at e
  ·rename_i t h0
   simp only[l5,e9]at e
   obtain⟨h1,he,rfl,rfl⟩:=e
   obtain⟨w',d1,d2,d3⟩:=bK7 (ty:=ty) h0 r he rv ru
   exact lift ⟨β,_,w',d1,⟨_,rfl,rfl⟩,d2,d3⟩
  ·cases e
 ·obtain⟨v,rfl,rv⟩:=ra.inv1
  exact lift (bK9 r e rv)
 ·obtain⟨v,u,rfl,rv,ru⟩:=ra.inv2
  simp only[VR]at ru;subst ru
  exact lift (cD4 r e rv)
 ·obtain⟨v,rfl,rv⟩:=ra.inv1
  split at e
  ·rename_i el hu
   simp only[l5,e9]at e
   obtain⟨a0,he,rfl,rfl⟩:=e
   obtain⟨p,n,c,rfl,rc⟩:=cD6 r he rv
   refine lift ⟨β,.int .i64 (c:Nat),w,?_,rc,r,.refl _ _⟩
   cases ht:ts[0]? with
   |none=>rw[ht]at hu;cases hu
   |some t=>
    rw[ht]at hu
    have hu:P.underlying t=some (.slice el):=hu
    simp[Builtin.cap_,ht,Sem.run_bind,run_underlying hu,goInt]
  ·cases e
 ·obtain⟨v,u,rfl,rv,ru⟩:=ra.inv2
  simp only[VR]at rv ru;subst rv ru
  simp only[a8,e9]at e;obtain⟨rfl,rfl⟩:=e
  rename_i k x k' y
  refine lift ⟨β,.int k (if y>x then y else x),w,?_,?_,r,.refl _ _⟩
  ·simp[Builtin.max_,Builtin.max2]
  ·rw[a98]
   by_cases hh:x<y
   ·simp[VR,hh]
   ·simp[VR,hh]
 ·obtain⟨v,u,rfl,rv,ru⟩:=ra.inv2
  simp only[VR]at rv ru;subst rv ru
  simp only[a8,e9]at e;obtain⟨rfl,rfl⟩:=e
  rename_i k x k' y
  refine lift ⟨β,.int k (if y<x then y else x),w,?_,?_,r,.refl _ _⟩
  ·simp[Builtin.min_,Builtin.min2]
  ·rw[a98]
   by_cases hh:y<x
   ·simp[VR,hh]
   ·simp[VR,hh]
 ·cases e
noncomputable def Ext.model:Ext→Array Value→Sem Value
 | .ident=>Extern.AbiNoEscape.same
 | .count=>Extern.BytealgCount.count
 | .indexByte=>Extern.BytealgIndexByte.indexByte
 | .makeNoZero t=>Extern.BytealgMakeNoZero.makeNoZero #[] #[t]
theorem cD7{x:Ext}{args:List AV}{us:Array Value}{a:AV}(r:HR β ω K w0 h w)(e:cT0 P x args h=some (a,h'))(ra:VRs β ω args us.toList):Ok P β ω K w0 w h (x.model us) a h':=by
 unfold cT0 at e
 split at e
 ·obtain⟨v,rfl,rv⟩:=ra.inv1
  simp only[a8,e9]at e;obtain⟨rfl,rfl⟩:=e
  exact⟨β,v,w,Lib.run_noEscape w v,rv,r,.refl _ _⟩
 ·rename_i l c
  obtain⟨v,u,rfl,rv,ru⟩:=ra.inv2
  simp only[VR]at rv ru;subst rv ru
  simp only[k8]at e
  obtain⟨n,hn,e⟩:=e
  obtain⟨hc,e⟩:=O5 e
  rw[P9]at hc
  simp only[a8,e9]at e;obtain⟨rfl,rfl⟩:=e
  have hn:=ao0 hn
  subst hn
  have hrun:=Lib.run_countString (P:=P) ⟨l.toArray⟩ (n:Int) w
  refine⟨β,_,w,hrun,?_,r,.refl _ _⟩
  show Value.int .i64 _=Value.int .i64 _
  rw[aN0 hc];rfl
 ·rename_i l c
  obtain⟨v,u,rfl,rv,ru⟩:=ra.inv2
  simp only[VR]at rv ru;subst rv ru
  simp only[k8]at e
  obtain⟨n,hn,e⟩:=e
  obtain⟨hc,e⟩:=O5 e
  rw[P9]at hc
  simp only[a8,e9]at e;obtain⟨rfl,rfl⟩:=e
  have hn:=ao0 hn
  subst hn
  have hrun:=Lib.run_indexByteString (P:=P) ⟨l.toArray⟩ (n:Int) w
  refine⟨β,_,w,hrun,?_,r,.refl _ _⟩
  show Value.int .i64 _=Value.int .i64 _
  rw[be9 hc];rfl
 ·cases e
end Go.Ev
