import Derived.Test.YtagmhdcpfhpmfaaGreatE40
set_option linter.unusedVariables false
set_option linter.unusedSimpArgs false
namespace Go.Ev
open Go
structure HC where
 f:FuncId
 nv:Nat
 c:FC
def de8(a b:Res):Res:=match a with
 | .bad=>b
 |r=>r
noncomputable def bP0:List HC→FuncId→List AV→Heap→Res
 | [],_,_,_=> .bad
 |x::r,f,args,h=>bif Nat.beq x.f f then de8 (a89 x.c x.nv args h) (bP0 r f args h)else bP0 r f args h
noncomputable def Env.hooks(E:Env)(cs:List HC):Env:={E with hook:=bP0 cs}
def S7(E:Env)(Ω:Opq→Prop)(x:HC):Prop:= ∀ω,Ω ω→ ∀(args:List AV) (h:Heap) (v:AV) (h':Heap),(a89 x.c x.nv args h= .val v h'∨ ∃e,a89 x.c x.nv args h= .need e v h'∧dB ω e=true)→a87 E ω x.f args h v h'
theorem aU9{f:FuncId}{args:List AV}{h:Heap}{y:Res}: ∀{cs:List HC},bP0 cs f args h=y→y≠ .bad→ ∃x∈cs,x.f=f∧a89 x.c x.nv args h=y
 | [],e,hy=>absurd e.symm hy
 |x::r,e,hy=>by
  unfold bP0 at e
  cases hc:Nat.beq x.f f with
  |false=>
   rw[hc]at e
   obtain⟨z,hz,h1,h2⟩:=aU9 e hy
   exact⟨z,E3 _ hz,h1,h2⟩
  |true=>
   rw[hc]at e
   simp only[cond_true]at e
   cases hr:a89 x.c x.nv args h with
   |bad=>
    rw[hr]at e
    obtain⟨z,hz,h1,h2⟩:=aU9 (cs:=r) e hy
    exact⟨z,E3 _ hz,h1,h2⟩
   |_=>
    rw[hr]at e
    exact⟨x,E4 ..,I6.1 hc,hr.trans e⟩
theorem c19{E:Env}{Ω:Opq→Prop}{cs:List HC}(hc: ∀x∈cs,S7 E Ω x){ω:Opq}(hω:Ω ω):HookOk (E.hooks cs) ω:=by
 refine⟨fun f args h v h' e=> ?_,fun f args h e v h' hh hd=> ?_⟩
 ·obtain⟨x,hx,rfl,h2⟩:=aU9 (show bP0 cs f args h=_ from e) (by simp)
  exact hc x hx ω hω args h v h' (.inl h2)
 ·obtain⟨x,hx,rfl,h2⟩:=aU9 (show bP0 cs f args h=_ from hh) (by simp)
  exact hc x hx ω hω args h v h' (.inr ⟨e,h2,hd⟩)
theorem Env.Ok.hooks{E:Env}{ω:Opq}(h:E.Ok ω)(cs:List HC):(E.hooks cs).Ok ω:=⟨h.fix,h.name,h.ext,h.bin,h.un,h.conv,h.blt⟩
theorem K6{E:Env}{Ω:Opq→Prop}(hΩ: ∀ω v0 l,Ω ω→Ω (ω.upd v0 l))(hE: ∀ω,Ω ω→E.Ok ω)(hm:E.P.follows .mixedOrders=true){cs:List HC}(hc: ∀x∈cs,S7 E Ω x){x:HC}{n:Nat}(ho:cz4 x.c x.nv=true)(hx:cp7 (E.hooks cs) Ω n x.f x.c):S7 E Ω x:=
 fun ω hω args h v h' e=>de7 (E:=E) (E0:=E.hooks cs) hΩ rfl ho (fun ω hω=>(co0 (E:=E.hooks cs) hΩ (fun ω h=>(hE ω h).hooks cs) (fun ω h=>c19 hc h) hm n ω hω).2.1) hx hω e
theorem c20{E:Env}{Ω:Opq→Prop}(hΩ: ∀ω v0 l,Ω ω→Ω (ω.upd v0 l)){x:HC}{n:Nat}(ho:cz4 x.c x.nv=true)(hx:bO9 E Ω n x.f x.c):S7 E Ω x:=
 fun ω hω args h v h' e=>cq2 (E:=E) hΩ ho hx hω e
theorem P7{E:Env}{Ω:Opq→Prop}(hΩ: ∀ω v0 l,Ω ω→Ω (ω.upd v0 l))(hE: ∀ω,Ω ω→E.Ok ω)(hm:E.P.follows .mixedOrders=true){cs:List HC}(hc: ∀x∈cs,S7 E Ω x)(n:Nat){ω:Opq}(hω:Ω ω):c84 (E.hooks cs) ω n:=
 (co0 (E:=E.hooks cs) hΩ (fun ω h=>(hE ω h).hooks cs) (fun ω h=>c19 hc h) hm n ω hω).2.1
theorem M6{E:Env}{Ω:Opq→Prop}{cs:List HC}{x:HC}(h: ∀x∈cs,S7 E Ω x)(hx:S7 E Ω x): ∀y∈x::cs,S7 E Ω y:=fun y hy=>by
 rcases A0.1 hy with rfl|hy
 ·exact hx
 ·exact h y hy
theorem aS0{E:Env}{Ω:Opq→Prop}{as cs:List HC}(h: ∀x∈cs,S7 E Ω x)(hx: ∀x∈as,S7 E Ω x): ∀y∈as++cs,S7 E Ω y:=fun y hy=>by
 rcases List.mem_append.1 hy with hy|hy
 ·exact hx y hy
 ·exact h y hy
def OmF(F:Nat→List Val→Val)(P:Program)(ω:Opq):Prop:=ω.f=F∧ ∀t,ω.fix t=aJ8 P t
theorem K8{E:Env}{Ω:Opq→Prop}{n:Nat}{f:FuncId}{c:FC}{T:VT}(ht:FC.run E n f c c.args=T)(h: ∀ω,Ω ω→dB ω c.need=true→G6 T ω=some (0,I9 ω c.outs)):cp7 E Ω n f c:=
 fun ω hω hn=>⟨c.args,fun _ _ h=>h,by rw[ht];exact h ω hω hn⟩
end Go.Ev
