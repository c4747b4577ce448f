import Derived.Test.YtbfbcanipfnfeaaE16z
set_option linter.unusedVariables false
set_option linter.unusedSimpArgs false
namespace Go.Ev
open Go
variable{E:Env}{β:Bij}{ω:Opq}{K:Nat→Prop}{w0 w:World}{h h':Heap}{ρA:Operand→Option AV}{ρ:Operand→Value}
theorem ch3(r:HR β ω K w0 h w)(o:OpR β ω ρA ρ)(c a b:Operand):SOk E β ω K w0 w h (do pure (.value (if←asBool (ρ c)then ρ a else ρ b))) (bj0 ρA a b h (ρA c)):=by
 unfold bj0
 split
 ·rename_i t hc
  have rc:=o c _ hc
  simp only[VR]at rc
  cases t with
  |true=>
   simp only[cond_true]
   cases ha:ρA a with
   |none=>trivial
   |some v=>exact⟨β,ρ a,w,.inl (by simp[rc,asBool]),o a v ha,r,.refl _ _⟩
  |false=>
   simp only[cond_false]
   cases hb:ρA b with
   |none=>trivial
   |some v=>exact⟨β,ρ b,w,.inl (by simp[rc,asBool]),o b v hb,r,.refl _ _⟩
 ·trivial
theorem bY7(r:HR β ω K w0 h w)(e:TypeId):SOk E β ω K w0 w h (do pure (.value (←Instr.alloc e true (.tuple #[])))) (cp2 e h (V5 E.P e)):=by
 cases hz:V5 E.P e with
 |none=>trivial
 |some z=>
  obtain⟨zv,z1,z2⟩:=an9 hz
  refine bI3 fun v h' hv=> ?_
  obtain⟨β',x,w',q1,q2,q3,q4⟩:=aU7 (P:=E.P) r hv (z1 β ω)
  exact⟨β',x,w',by simp only[Instr.alloc,Sem.run_bind,z2,Result.andThen_ok];simpa only[Sem.run_bind]using q1,q2,q3,q4⟩
theorem cB6(r:HR β ω K w0 h w)(o:OpR β ω ρA ρ)(e:TypeId)(x:Operand):SOk E β ω K w0 w h (do pure (.value (←Instr.box e (ρ x)))) (cp2 e h (ρA x)):=by
 cases hx:ρA x with
 |none=>trivial
 |some a=>exact bI3 fun v h' hv=>aU7 (P:=E.P) r hv (o x a hx)
theorem bY8(r:HR β ω K w0 h w)(o:OpR β ω ρA ρ)(t:TypeId)(ps:Array (Nat×Operand)):SOk E β ω K w0 w h (do pure (.value (←Instr.build t (ps.map fun(i,x)=>(i,ρ x))))) (bu6 E.P t h (aS1 ρA ps.toList)):=by
 cases hx:aS1 ρA ps.toList with
 |none=>trivial
 |some l=>
  obtain⟨q1,q2⟩:=bm1 o hx
  refine bb2 r fun v hv=> ?_
  obtain⟨u,g1,g2⟩:=bV0 (P:=E.P) (β:=β) (ω:=ω) (vparts:=ps.map fun(i,x)=>(i,ρ x)) hv (by simpa using q1) (by simpa using q2)
  exact⟨u,g1,g2 w⟩
theorem aT1(r:HR β ω K w0 h w)(o:OpR β ω ρA ρ)(t n:Nat)(ps:Array (Nat×Operand)):
 SOk E β ω K w0 w h (do pure (.value (←Instr.buildSlice t n (ps.map fun(i,x)=>(i,ρ x))))) (a06 E.P t n h (aS1 ρA ps.toList)):=by
 cases hx:aS1 ρA ps.toList with
 |none=>trivial
 |some l=>
  obtain⟨q1,q2⟩:=bm1 o hx
  exact bI3 fun v h' hv=>aS7 (P:=E.P) r hv (by simpa using q1) (by simpa using q2)
theorem ch4(r:HR β ω K w0 h w)(o:OpR β ω ρA ρ)(t:TypeId)(x:Operand):SOk E β ω K w0 w h (do pure (.value (←Instr.loadAt t (ρ x)))) (cw4 E.P t h (ρA x)):=by
 cases hx:ρA x with
 |none=>trivial
 |some a=>exact bb2 r fun v hv=>bv8 r hv (o x a hx)
theorem bY9(r:HR β ω K w0 h w)(o:OpR β ω ρA ρ)(t:TypeId)(x y:Operand):SOk E β ω K w0 w h (do Instr.storeAt t (ρ x) (ρ y);pure .skip) (bP3 E.P t h (ρA x) (ρA y)):=by
 cases hx:ρA x with
 |none=>trivial
 |some a=>
  cases hy:ρA y with
  |none=>trivial
  |some b=>exact cV0 fun h' hv=>ba4 r hv (o x a hx) (o y b hy)
theorem cB7(hE:E.Ok ω)(r:HR β ω K w0 h w)(o:OpR β ω ρA ρ)(op:BinOp)(t:TypeId)(x y:Operand):
 SOk E β ω K w0 w h (do pure (.value (←(do eqGuard op t x y (ρ x) (ρ y);binOp op t (ρ x) (ρ y):Sem Value)))) (cN9 E op t x y h (ρA x) (ρA y)):=by
 cases hx:ρA x with
 |none=>trivial
 |some a=>
  cases hy:ρA y with
  |none=>trivial
  |some b=>
   simp only[cN9]
   cases hg:an2 E.P op t x y a b with
   |false=>trivial
   |true=>
    refine bb2 r fun v hv=> ?_
    have hgr:=aU5 hg (o x a hx) (o y b hy)
    have main: ∃u,VR β ω v u∧ ∀w,(binOp op t (ρ x) (ρ y)).run E.P w= .ok u w:=by
     unfold orF at hv
     split at hv
     ·rename_i v' hb
      simp only[a8]at hv;subst hv
      exact bU5 hb (o x a hx) (o y b hy)
     ·exact hE.bin op a b v hv β t _ _ (o x a hx) (o y b hy)
    obtain⟨u,u1,u2⟩:=main
    exact⟨u,u1,by simp only[Sem.run_bind,hgr,Result.andThen_ok,u2]⟩
theorem cV6(hE:E.Ok ω)(r:HR β ω K w0 h w)(o:OpR β ω ρA ρ)(op:UnOp)(x:Operand):SOk E β ω K w0 w h (do pure (.value (←Op.unary op (ρ x)))) (sUn E op h (ρA x)):=by
 cases hx:ρA x with
 |none=>trivial
 |some a=>
  refine bb2 r fun v hv=> ?_
  have main: ∃u,VR β ω v u∧ ∀w,(Op.unary op (ρ x)).run E.P w= .ok u w:=by
   unfold orF at hv
   split at hv
   ·rename_i v' hb
    simp only[a8]at hv;subst hv
    exact cr5 hb (o x a hx)
   ·exact hE.un op a v hv β _ (o x a hx)
  obtain⟨u,u1,u2⟩:=main
  exact⟨u,u1,u2 w⟩
theorem ch5(hE:E.Ok ω)(r:HR β ω K w0 h w)(o:OpR β ω ρA ρ)(s d:TypeId)(x:Operand):SOk E β ω K w0 w h (do pure (.value (←convert s d (ρ x)))) (bG4 E s d h (ρA x)):=by
 cases hx:ρA x with
 |none=>trivial
 |some a=>
  simp only[bG4]
  cases hc:bG0 E.P s d a h with
  |some p=>exact .of (ce6 hE.fix r (a:=p.1) (h':=p.2) hc (o x a hx))
  |none=>
   simp only[]
   cases hc2:bO9 E.P s d a h with
   |some p=>exact⟨p,by simp,.of (ce7 r (a:=p.1) (h':=p.2) hc2 (o x a hx))⟩
   |none=>exact bb2 r fun v hv=>let ⟨u,u1,u2⟩:=hE.conv d a v hv β s _ (o x a hx);⟨u,u1,u2 w⟩
theorem bZ0(r:HR β ω K w0 h w)(o:OpR β ω ρA ρ)(t:TypeId)(x:Operand):SOk E β ω K w0 w h (do pure (.value (←Instr.makeInterface t (ρ x)))) (aT9 E.P t h (ρA x)):=by
 cases hx:ρA x with
 |none=>trivial
 |some a=>
  simp only[aT9]
  split
  ·trivial
  ·rename_i d hd hn
   refine .of ⟨β,.iface t (ρ x),w,?_,⟨_,rfl,o x a hx⟩,r,.refl _ _⟩
   simp only[Instr.makeInterface,Sem.run_bind,M9 hn,Result.andThen_ok]
   rfl
  ·trivial
theorem ch6(r:HR β ω K w0 h w)(o:OpR β ω ρA ρ)(fn:Fn)(xs ys:Array Operand):
 SOk E β ω K w0 w h (do pure (.value (←Instr.makeFunc fn (xs.map ρ) (ys.map ρ)))) (bG5 fn h (evs ρA xs.toList) (evs ρA ys.toList)):=by
 cases hx:evs ρA xs.toList with
 |none=>trivial
 |some a=>
  cases hy:evs ρA ys.toList with
  |none=>trivial
  |some b=>
   simp only[bG5]
   split
   ·trivial
   ·rename_i hn
    exact .of ⟨β,.func fn (xs.map ρ) (ys.map ρ),w,rfl,⟨hn,_,_,rfl,by simpa using aV2 o hx,by simpa using aV2 o hy⟩,r,.refl _ _⟩
theorem cB8(r:HR β ω K w0 h w)(o:OpR β ω ρA ρ)(t:TypeId)(x:Option Operand):SOk E β ω K w0 w h (do pure (.value (←Instr.makeMap t (x.map ρ)))) (cb5 E.P t h (evo ρA x)):=by
 unfold cb5
 split
 ·rename_i kt et ht
  have new: ∀m:Sem Value,m.run E.P w= .ok (.map (some w.heap.size)) (w.alloc (.map #[] 0))→W2 E β ω K w0 w h (do pure (.value (←m))) (.map h.next) (h.new (.map [] 0)):=by
   intro m hm
   obtain⟨p1,p2⟩:=r.new (.map #[] 0) (.map [] 0) 0 0 ⟨#[],rfl,.nil⟩
   exact .of ⟨_,_,_,hm,⟨_,Bij.add_self _ _ _,rfl⟩,p1,p2⟩
  split
  ·rename_i hx
   have:=az3 o hx
   simp only[OR]at this
   rw[this]
   exact new _ rfl
  ·rename_i k n hx
   obtain⟨v,hv,rv⟩:=az3 o hx
   simp only[VR]at rv;subst rv
   rw[hv]
   refine new _ ?_
   simp only[Instr.makeMap,Sem.run_bind,M9 ht,Result.andThen_ok,asInt,asIntOf,Sem.run_pure,run_newObj]
   rfl
  ·trivial
 ·trivial
theorem b17(r:HR β ω K w0 h w)(o:OpR β ω ρA ρ)(t:TypeId)(x y:Operand):SOk E β ω K w0 w h (do pure (.value (←Instr.makeSlice t (ρ x) (ρ y)))) (a60 E.P t h (ρA x) (ρA y)):=by
 cases hx:ρA x with
 |none=>trivial
 |some a=>
  cases hy:ρA y with
  |none=>trivial
  |some b=>exact bI3 fun v h' hv=>b08 r hv (o x a hx) (o y b hy)
theorem bZ1(r:HR β ω K w0 h w)(o:OpR β ω ρA ρ)(t:TypeId)(x:Operand)(lo hi mx:Option Operand):
 SOk E β ω K w0 w h (do pure (.value (←Instr.sliceAt t (ρ x) (lo.map ρ) (hi.map ρ) (mx.map ρ)))) (aU0 E t h (ρA x) (evo ρA lo) (evo ρA hi) (evo ρA mx)):=by
 cases hx:ρA x with
 |none=>trivial
 |some a=>
  cases h1:evo ρA lo with
  |none=>trivial
  |some vl=>
   cases h2:evo ρA hi with
   |none=>trivial
   |some vh=>
    cases h3:evo ρA mx with
    |none=>trivial
    |some vm=>
     simp only[aU0]
     cases hc:(vh.isNone&&vm.isSome)with
     |true=>trivial
     |false=>
      refine bb2 r fun v hv=> ?_
      obtain⟨u,u1,u2⟩:=bU8 r hv hc (o x a hx) (az3 o h1) (az3 o h2) (az3 o h3)
      exact⟨u,u1,u2 w⟩
theorem cB9{F:AV→AV→Option AV}{G:Value→Value→Sem Value}(r:HR β ω K w0 h w)(o:OpR β ω ρA ρ)(x y:Operand)
 (k: ∀a b v va vb,F a b=some v→VR β ω a va→VR β ω b vb→ ∃u,VR β ω v u∧(G va vb).run E.P w= .ok u w):SOk E β ω K w0 w h (do pure (.value (←G (ρ x) (ρ y)))) (s2 F h (ρA x) (ρA y)):=by
 cases hx:ρA x with
 |none=>trivial
 |some a=>
  cases hy:ρA y with
  |none=>trivial
  |some b=>exact bb2 r fun v hv=>k a b v _ _ hv (o x a hx) (o y b hy)
theorem bZ2{F:AV→Option AV}{G:Value→Sem Value}(r:HR β ω K w0 h w)(o:OpR β ω ρA ρ)(x:Operand)
 (k: ∀a v va,F a=some v→VR β ω a va→ ∃u,VR β ω v u∧(G va).run E.P w= .ok u w):SOk E β ω K w0 w h (do pure (.value (←G (ρ x)))) (s1 F h (ρA x)):=by
 cases hx:ρA x with
 |none=>trivial
 |some a=>exact bb2 r fun v hv=>k a v _ hv (o x a hx)
theorem bZ3{F:AV→AV→AV→Option Heap}{G:Value→Value→Value→Sem Unit}(r:HR β ω K w0 h w)(o:OpR β ω ρA ρ)(x y z:Operand)
 (k: ∀a b c h' va vb vc,F a b c=some h'→VR β ω a va→VR β ω b vb→VR β ω c vc→OkU E.P β ω K w0 w h (G va vb vc) h'):SOk E β ω K w0 w h (do G (ρ x) (ρ y) (ρ z);pure .skip) (s3h F (ρA x) (ρA y) (ρA z)):=by
 cases hx:ρA x with
 |none=>trivial
 |some a=>
  cases hy:ρA y with
  |none=>trivial
  |some b=>
   cases hz:ρA z with
   |none=>trivial
   |some c=>exact cV0 fun h' hv=>k a b c h' _ _ _ hv (o x a hx) (o y b hy) (o z c hz)
theorem bm8(hE:E.Ok ω)(r:HR β ω K w0 h w){args:List AV}{us:List Value}(ra:VRs β ω args us)(b:Builtin)(ts:Array TypeId)(ty:TypeId)(cs:Array Bool):
 SOk E β ω K w0 w h (builtin b ts ty cs us.toArray) (ac5 E b ts h args):=by
 unfold ac5
 split
 ·rename_i p hp
  obtain⟨β',v,w',q1,q2,q3,q4⟩:=ao1 (ty:=ty) (cs:=cs) (us:=us.toArray) (a:=p.1) (h':=p.2) hE.fix r hp (by simpa using ra)
  exact⟨β',v,w',.inl q1,q2,q3,q4⟩
 ·have main: ∀k,(b= .len∧k=FK.len∨b= .max∧k=FK.max∨b= .min∧k=FK.min)→SOk E β ω K w0 w h (builtin b ts ty cs us.toArray) (ov (E.fact k args) h):=by
   intro k hk
   cases hf:E.fact k args with
   |none=>trivial
   |some v=>
    obtain⟨u,u1,u2⟩:=hE.blt b k args v hk hf β ts ty cs us ra
    exact⟨β,u,w,.inl (u2 w),u1,r,.refl _ _⟩
  split
  ·exact main .len (.inl ⟨rfl,rfl⟩)
  ·exact main .max (.inr (.inl ⟨rfl,rfl⟩))
  ·exact main .min (.inr (.inr ⟨rfl,rfl⟩))
  ·trivial
theorem ch7(hE:E.Ok ω)(r:HR β ω K w0 h w)(o:OpR β ω ρA ρ)(c:Call)(ty:TypeId):
 SOk E β ω K w0 w h (do let d ←resolve ρ c ty;invoke d.target d.args) (b82 E ρA c h (evs ρA c.args.toList)):=by
 cases hx:evs ρA c.args.toList with
 |none=>trivial
 |some args=>
  have ra:=aV2 o hx
  have harr:(c.args.toList.map ρ).toArray=c.args.map ρ:=by apply y8;simp
  simp only[b82]
  split
  ·rename_i b hb
   have:=bm8 hE r ra b c.argTypes ty (c.args.map fun| .const _=>true|_=>false)
   rw[harr]at this
   have hrun: ∀w,(do let d ←resolve ρ c ty;invoke d.target d.args:Sem Next).run E.P w=(builtin b c.argTypes ty (c.args.map fun| .const _=>true|_=>false) (c.args.map ρ)).run E.P w:=by
     intro w;simp only[resolve,hb,Sem.run_bind,Sem.run_pure,Result.andThen_ok,invoke];rfl
   cases hres:ac5 E b c.argTypes h args<;>rw[hres]at this
   ·obtain⟨β',u,w',q1,q2⟩:=this
    exact⟨β',u,w',by rw[hrun];exact q1,q2⟩
   ·intro hd
    obtain⟨β',u,w',q1,q2⟩:=this hd
    exact⟨β',u,w',by rw[hrun];exact q1,q2⟩
   ·refine⟨fun hd=> ?_,fun hd=> ?_⟩
    ·obtain⟨β',u,w',q1,q2⟩:=this.1 hd
     exact⟨β',u,w',by rw[hrun];exact q1,q2⟩
    ·obtain⟨x,hx,β',u,w',q1,q2⟩:=this.2 hd
     exact⟨x,hx,β',u,w',by rw[hrun];exact q1,q2⟩
   ·obtain⟨vs,q1,q2⟩:=this
    exact⟨vs,by rw[hrun];exact q1,q2⟩
   ·obtain⟨x,hx,β',u,w',q1,q2⟩:=this
    exact⟨x,hx,β',u,w',by rw[hrun];exact q1,q2⟩
   ·obtain⟨L,vs,q1,q2,q3⟩:=this
    exact⟨L,vs,q1,q2,by rw[hrun];exact q3⟩
   ·obtain⟨d,q1,q2⟩:=this
    exact⟨d,by rw[hrun];exact q1,q2⟩
   ·trivial
  ·rename_i rc name hf
   cases hv:ρA rc with
   |none=>trivial
   |some vf=>
    have:=aI6 hE (name:=name) (cap:=[]) (y:= #[]) (x:= #[ρ rc]) r (first:=[vf]) ⟨ρ rc,[],rfl,o rc vf hv,rfl⟩ ra
    rw[harr]at this
    have hres:resolve ρ c ty=Deferred.ofValue (.func (.method name) #[ρ rc] #[]) (c.args.map ρ):=by simp only[resolve,hf,Deferred.ofValue]
    rw[hres];exact this
  ·rename_i f hf
   cases hv:ρA f with
   |none=>trivial
   |some vf=>
    have:=aV4 hE r (o f vf hv) ra
    rw[harr]at this
    have hres:resolve ρ c ty=Deferred.ofValue (ρ f) (c.args.map ρ):=by simp only[resolve,hf]
    rw[hres];exact this
theorem ch8(hE:E.Ok ω)(r:HR β ω K w0 h w)(ro:OpR β ω ρA ρ)(o:Oper):SOk E β ω K w0 w h (execOp ρ o) (aq4 E ρA o h):=by
 obtain⟨dst,op,ty,pos,after,guard⟩:=o
 cases op with
 |move x=>
  show SOk E β ω K w0 w h (pure (.value (ρ x))) (ov (ρA x) h)
  cases hx:ρA x with
  |none=>trivial
  |some a=>exact⟨β,ρ x,w,.inl rfl,ro x a hx,r,.refl _ _⟩
 |assign x=>
  show SOk E β ω K w0 w h (pure (.value (ρ x))) (ov (ρA x) h)
  cases hx:ρA x with
  |none=>trivial
  |some a=>exact⟨β,ρ x,w,.inl rfl,ro x a hx,r,.refl _ _⟩
 |pick c a b=>exact ch3 r ro c a b
 |alloc e=>exact bY7 r e
 |box e x=>exact cB6 r ro e x
 |build t ps=>exact bY8 r ro t ps
 |buildSlice t n ps=>exact aT1 r ro t n ps
 |load t a=>exact ch4 r ro t a
 |store t a x=>exact bY9 r ro t a x
 |nilCheck x=>
  show SOk E β ω K w0 w h _ (cN8 E.P h (ρA x))
  unfold cN8
  split
  ·rename_i name first cap hx
   unfold aY7
   split
   ·rename_i t v rest
    split
    ·rename_i g hm
     have rx:=ro x _ hx
     refine⟨β,ρ x,w,.inl ?_,rx,r,.refl _ _⟩
     obtain⟨-,p,q,e,rp,-⟩:=rx
     obtain⟨u,us,hp,ru,-⟩:=rp
     obtain⟨y,rfl,-⟩:=ru
     have h0:p[0]? =some (.iface t y):=by rw[←Array.getElem?_toList,hp];rfl
     have hn:(nilAhead (E.P.types.size+Made.depth) t y name).run E.P w= .ok (some false) w:=bb3 hm (E.P.types.size+99) y w
     simp only[execOp,e,h0,Sem.run_bind,run_program,Result.andThen_ok,hn]
     rfl
    ·trivial
   ·trivial
  ·rename_i a hnm hx
   cases hn:aq3 a with
   |none=>trivial
   |some b=>
    have rx:=ro x a hx
    obtain⟨rfl,hv⟩:=bm2 rx hn
    refine⟨β,ρ x,w,.inl ?_,rx,r,.refl _ _⟩
    simp only[execOp]
    clear rx
    generalize ρ x=v at hv
    cases v with
    |pointer p=>cases p with
     |none=>cases hv
     |some p=>rfl
    |func fn a b=>cases fn<;>first|rfl|cases hv
    |nilIface=>cases hv
    |nilFunc=>cases hv
    |_=>rfl
  ·trivial
 |binOp op t x y _=>exact cB7 hE r ro op t x y
 |unOp op _ x=>exact cV6 hE r ro op x
 |convert s d x=>exact ch5 hE r ro s d x
 |makeInterface t x=>exact bZ0 r ro t x
 |makeFunc fn a b=>exact ch6 r ro fn a b
 |makeMap t x=>exact cB8 r ro t x
 |makeSlice t l c=>exact b17 r ro t l c
 |slice t x lo hi mx=>exact bZ1 r ro t x lo hi mx
 |fieldAddr s x f=>exact bZ2 (F:=fun a=>ai7 E.P s a f) (G:=fun v=>Instr.fieldAt s v f) r ro x fun a v va e ra=>let ⟨u,u1,u2⟩:=b04 e ra;⟨u,u1,u2 w⟩
 |field t x f=>exact bZ2 (F:=fun a=>bt9 E.P t a f) (G:=fun v=>Instr.field t v f) r ro x fun a v va e ra=>let ⟨u,u1,u2⟩:=bU6 e ra;⟨u,u1,u2 w⟩
 |indexAddr t x i=>exact cB9 (G:=fun v u=>Instr.indexAt t v u) r ro x i fun a b v va vb e ra rb=>let ⟨u,u1,u2⟩:=b05 e ra rb;⟨u,u1,u2 w⟩
 |index t x i=>exact cB9 (G:=fun v u=>Instr.index t v u) r ro x i fun a b v va vb e ra rb=>let ⟨u,u1,u2⟩:=ba3 e ra rb;⟨u,u1,u2 w⟩
 |lookup t x i ok=>exact cB9 (F:=fun a i=>aY5 E.P t a i ok h) (G:=fun v u=>Instr.lookup t v u ok) r ro x i fun a b v va vb e ra rb=>bH9 r e ra rb
 |mapUpdate t m k x=>exact bZ3 (F:=fun m k v=>a59 E.P t m k v h) (G:=fun m k v=>Instr.mapUpdate t m k v) r ro m k x fun a b c h' va vb vc e ra rb rc=>ar2 r e ra rb rc
 |insert t m k x=>exact bZ3 (F:=fun m k v=>a59 E.P t m k v h) (G:=fun m k v=>Instr.mapUpdate t m k v) r ro m k x fun a b c h' va vb vc e ra rb rc=>ar2 r e ra rb rc
 |mapEntry t m k=>
  show SOk E β ω K w0 w h (do pure (.value (←Instr.mapEntry t (ρ m) (ρ k)))) (s2h (fun m k=>aq1 E.P t m k h) (ρA m) (ρA k))
  cases hx:ρA m with
  |none=>trivial
  |some a=>
   cases hy:ρA k with
   |none=>trivial
   |some b=>exact bI3 fun v h' hv=>ba7 r hv (ro m a hx) (ro k b hy)
 |entryStore t m s x=>exact bZ3 (F:=fun m s v=>ac3 m s v h) (G:=fun m k v=>Instr.entryStore t m k v) r ro m s x fun a b c h' va vb vc e ra rb rc=>aS8 r e ra rb rc
 |range t x=>
  show SOk E β ω K w0 w h (do pure (.value (←Instr.range t (ρ x)))) (s1h (fun a=>bu2 E.P t a h) (ρA x))
  cases hx:ρA x with
  |none=>trivial
  |some a=>exact bI3 fun v h' hv=>bV5 r hv (ro x a hx)
 |next it s=>
  show SOk E β ω K w0 w h (do pure (.value (←Instr.next (ρ it) s ty))) (s1r (fun a=>bO5 a s h) (ρA it))
  cases hx:ρA it with
  |none=>trivial
  |some a=>
   have:=ce5 (P:=E.P) (ty:=ty) (isS:=s) r (ro it a hx)
   simp only[s1r]
   cases hn:bO5 a s h<;>rw[hn]at this
   ·exact .of this
   ·exact this.elim
   ·exact this.elim
   ·exact this.elim
   ·obtain⟨x,hx,hok⟩:=this;exact⟨x,hx,.of hok⟩
   ·exact this.elim
   ·exact this.elim
   ·trivial
 |entry it=>exact bZ2 (F:=fun a=>bu4 a h) (G:=fun v=>Instr.entry v) r ro it fun a v va e ra=>bW0 r e ra
 |typeAssert x xt t ok=>exact bZ2 (F:=fun a=>ac4 E.P a t ok) (G:=fun v=>Instr.typeAssert v xt t ok) r ro x fun a v va e ra=>let ⟨u,u1,u2⟩:=aS9 e ra;⟨u,u1,u2 w⟩
 |extract t i=>exact bZ2 (F:=aC3 i) (G:=fun v=>Instr.extract v i) r ro t fun a v va e ra=>let ⟨u,u1,u2⟩:=bl3 e ra;⟨u,u1,u2 w⟩
 |call c=>exact ch7 hE r ro c ty
 |defer c=>
  show SOk E β ω K w0 w h (do pure (.defer (←resolve ρ c ty))) (b83 ρA c (evs ρA c.args.toList))
  cases hv:evs ρA c.args.toList with
  |none=>trivial
  |some args=>
   have ra:=aV2 ro hv
   simp only[b83]
   split
   ·rename_i f hcal
    cases hf:ρA f with
    |none=>trivial
    |some a=>
     simp only[s1r]
     unfold bP4
     split
     ·rename_i g first cap
      obtain⟨-,x,y,hx,rx,ry⟩:=ro f _ hf
      refine⟨{target:= .fn (.func g) y,args:=x++(c.args.map ρ)},?_,_,_,rfl,?_,ry⟩
      ·simp only[resolve,hcal,hx,Deferred.ofValue,Sem.run_bind,Sem.run_pure,Result.andThen_ok]
      ·rw[Array.toList_append,J7]
       exact rx.append ra
     ·trivial
   ·trivial
 |_=>trivial
theorem bc3(hE:E.Ok ω)(r:HR β ω K w0 h w)(ro:OpR β ω ρA ρ)(o:Oper):SOk E β ω K w0 w h (execOp ρ o) (S5 E ρA o h):=by
 have h1:=ch8 hE r ro o
 have h2:=ch2 (E:=E) hE.fix r ro o
 unfold S5
 cases hc:aq4 E ρA o h<;>rw[hc]at h1<;>first|exact h1|exact h2
end Go.Ev
