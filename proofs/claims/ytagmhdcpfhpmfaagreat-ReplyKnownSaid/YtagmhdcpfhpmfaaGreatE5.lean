import Derived.Test.YtagmhdcpfhpmfaaGreatE4
set_option linter.unusedVariables false
set_option linter.unusedSimpArgs false
namespace Go.Ev
open Go
variable{P:Program}{β:Bij}{ω:Opq}{K:Nat→Prop}{w0 w:World}{h:Heap}
def ch0:Value→Value→Bool
 | .int _ _,.int _ _=>true
 | .float _ _,.float _ _=>true
 | .complex _ _ _,.complex _ _ _=>true
 | .string _,.string _=>true
 |_,_=>false
theorem b03(t:TypeId)(x y:Value)(hc:ch0 x y=false):binOp .eql t x y=(do pure (.bool (←Op.equal t x y))):=by
 cases x<;>cases y<;>first|rfl|(simp[ch0]at hc)
theorem b04(t:TypeId)(x y:Value)(hc:ch0 x y=false):binOp .neq t x y=(do pure (.bool (!(←Op.equal t x y)))):=by
 cases x<;>cases y<;>first|rfl|(simp[ch0]at hc)
theorem bC4{n:Nat}{t:TypeId}{a b:AV}{x y:Value}{r:Bool}(h:eqE P n t a b=some r)(rx:VR β ω a x)(ry:VR β ω b y)(ha: ∀k n,a≠ .int k n)(hs: ∀l,a≠ .str l):
 ch0 x y=false∨(r=true∧ ∃k n,x= .int k n∧y= .int k n)∨(r=true∧ ∃s,x= .string s∧y= .string s):=by
 cases n with
 |zero=>cases h
 |succ n=>
  have h':a38 P (eqE P n) t a b=some r:=h
  unfold a38 at h'
  split at h'
  ·split at h'
   ·simp only[VR]at rx;subst rx;left;cases y<;>rfl
   ·cases h'
  ·split at h'
   ·exact absurd rfl (ha _ _)
   ·rename_i k m k' m'
    simp only[VR]at rx ry;subst rx;subst ry
    split at h'
    ·rename_i e;subst e
     cases hc:SX.beq m m' with
     |true=>rw[hc]at h';obtain rfl:=SX.beq_eq _ _ hc;simp at h';subst h';exact .inr (.inl ⟨rfl,_,_,rfl,rfl⟩)
     |false=>rw[hc]at h';simp at h'
    ·cases h'
   ·cases h'
  ·split at h'
   ·exact absurd rfl (hs _)
   ·rename_i m m'
    simp only[VR]at rx ry;subst rx;subst ry
    cases hc:SX.beq m m' with
    |true=>rw[hc]at h';obtain rfl:=SX.beq_eq _ _ hc;simp at h';subst h';exact .inr (.inr ⟨rfl,_,rfl,rfl⟩)
    |false=>rw[hc]at h';simp at h'
   ·cases h'
  ·left
   split at h'
   ·simp only[VR]at rx;subst rx;rfl
   ·simp only[VR]at rx;subst rx;rfl
   ·simp only[VR]at rx;obtain⟨L,_,rfl⟩:=rx;rfl
   ·simp only[VR]at rx;obtain⟨L,_,rfl⟩:=rx;rfl
   ·cases h'
  ·left
   split at h'
   ·simp only[VR]at rx;subst rx;rfl
   ·simp only[VR]at rx;subst rx;rfl
   ·simp only[VR]at rx;obtain⟨L,rfl,_⟩:=rx;rfl
   ·simp only[VR]at rx;obtain⟨L,rfl,_⟩:=rx;rfl
   ·cases h'
  ·left
   split at h'
   ·simp only[VR]at rx;subst rx;rfl
   ·obtain⟨_,_,_,rfl,_⟩:=aZ9 h' rx;rfl
   ·cases h'
  ·left
   split at h'
   ·simp only[VR]at rx;subst rx;rfl
   ·obtain⟨_,rfl,_⟩:=b00 h' rx;rfl
   ·cases h'
  ·left
   split at h'
   ·simp only[VR]at rx;subst rx;rfl
   ·rcases b01 h' rx with⟨rfl,_⟩|⟨⟨_,_,_,rfl⟩,_⟩<;>rfl
   ·cases h'
  ·left
   split at h'
   ·simp only[VR]at rx;obtain⟨L,rfl,_⟩:=rx;rfl
   ·cases h'
  ·left
   split at h'
   ·simp only[VR]at rx;obtain⟨L,rfl,_⟩:=rx;rfl
   ·cases h'
  ·cases h'
theorem bK9{op:BinOp}{t:TypeId}{x y a:AV}{vx vy:Value}(h:cA1 P op t x y=some a)(rx:VR β ω x vx)(ry:VR β ω y vy)(ha: ∀k n,x≠ .int k n)(hs: ∀l,x≠ .str l):
 ∃v,VR β ω a v∧ ∀w,(binOp op t vx vy).run P w= .ok v w:=by
 cases op<;>simp only[cA1,reduceCtorEq]at h
 ·simp only[j1]at h
  obtain⟨r,hr,rfl⟩:=h
  refine⟨_,rfl,fun w=> ?_⟩
  rcases bC4 hr rx ry ha hs with hc|⟨rfl,k,n,rfl,rfl⟩|⟨rfl,s,rfl,rfl⟩
  ·rw[b03 _ _ _ hc]
   simp[Op.equal,Op.maxDepth,b02 10000 hr rx ry]
  ·simp[binOp,Op.intCmp]
  ·simp[binOp,Op.stringOp]
 ·simp only[j1]at h
  obtain⟨r,hr,rfl⟩:=h
  refine⟨_,rfl,fun w=> ?_⟩
  rcases bC4 hr rx ry ha hs with hc|⟨rfl,k,n,rfl,rfl⟩|⟨rfl,s,rfl,rfl⟩
  ·rw[b04 _ _ _ hc]
   simp[Op.equal,Op.maxDepth,b02 10000 hr rx ry]
  ·simp[binOp,Op.intCmp]
  ·simp[binOp,Op.stringOp]
theorem cV8{op:BinOp}{k:IntKind}{m:Int}{n:Nat}{a:AV}{v:Value}(t:TypeId)(h:dp2 op k m n=some a)(rv:VR β ω (.atl n) v):
 ∃u,VR β ω a u∧ ∀w,(binOp op t (.int k m) v).run P w= .ok u w:=by
 unfold dp2 at h
 split at h
 ·cases hc:aY5 (.ofNat n) m with
  |true=>rw[hc]at h;cases h
  |false=>
   rw[hc]at h
   simp only[cond_false,d5]at h;subst h
   obtain⟨q,rfl,hq⟩:=rv
   have h1:aY5 q m=false:=by
    rw[a63,decide_eq_false_iff_not]at hc⊢
    have:(Int.ofNat n:Int)=(n:Int):=rfl
    omega
   have h2:bg6 .gtr .i64 m q=some (.bool false):=by simp only[bg6,h1]
   exact aU2 t h2 ⟨by decide,by decide⟩
 ·cases h
theorem ch1{op:BinOp}{t:TypeId}{x y a:AV}{vx vy:Value}(h:dl9 P op t x y=some a)(rx:VR β ω x vx)(ry:VR β ω y vy):
 ∃v,VR β ω a v∧ ∀w,(binOp op t vx vy).run P w= .ok v w:=by
 unfold dl9 at h
 split at h
 ·rename_i k m
  split at h
  ·rename_i k' m'
   simp only[VR]at rx ry;subst rx;subst ry
   unfold dw2 at h
   split at h
   ·obtain⟨v,r,hv⟩:=bC3 (P:=P) (β:=β) (ω:=ω) (k':=k') h
    exact⟨v,r,fun w=>by rw[←hv w];rfl⟩
   ·obtain⟨v,r,hv⟩:=bC3 (P:=P) (β:=β) (ω:=ω) (k':=k') h
    exact⟨v,r,fun w=>by rw[←hv w];rfl⟩
   ·rename_i n1 n2
    split at h
    ·rename_i e;subst e
     exact aU2 t h ⟨n1,n2⟩
    ·cases h
  ·simp only[VR]at rx;subst rx
   exact cV8 t h ry
  ·cases h
 ·split at h
  ·simp only[VR]at rx ry;subst rx;subst ry
   exact bo4 t h
  ·cases h
 ·exact bK9 h rx ry (fun k n e=>by subst e;simp_all) (fun l e=>by subst e;simp_all)
theorem b05{b:AV}(h:VR β ω b .nilIface):b= .nili∨(∃n,b= .opq n)∨b= .any:=by
 cases b<;>simp[VR]at h⊢
theorem db4{b:AV}{cs:Array Value}(h:VR β ω b (.agg cs)):(∃l,b= .agg l)∨(∃n,b= .opq n)∨b= .any:=by
 cases b<;>simp[VR]at h⊢
def db5(va vb:Value):Bool:=
 match va,vb with
 | .nilIface,.nilIface=>false
 | .agg _,.agg _=>false
 |_,_=>true
theorem aR1(op:BinOp)(t:TypeId)(x y:Operand){va vb:Value}(h:db5 va vb=true)(w:World):(eqGuard op t x y va vb).run P w= .ok () w:=by
 unfold eqGuard
 cases op<;>first
  |rfl
  |(cases va<;>cases vb<;>first|rfl|(simp[db5]at h))
theorem bL0(op:BinOp)(t:TypeId)(x y:Operand){ca:Array Value}{vb:Value}(h:P.eqGuardType P.depth t=false)(w:World):(eqGuard op t x y (.agg ca) vb).run P w= .ok () w:=by
 unfold eqGuard
 cases op<;>first
  |rfl
  |(cases vb<;>first|rfl|simp[h])
theorem aC0(op:BinOp)(t:TypeId)(x y:Operand){vb:Value}(h:ak9 x=true∨ak9 y=true)(w:World):(eqGuard op t x y .nilIface vb).run P w= .ok () w:=by
 unfold eqGuard
 rcases h with h|h
 ·cases x<;>simp[ak9]at h
  cases op<;>first
   |rfl
   |(cases vb<;>first|rfl|simp)
 ·cases y<;>simp[ak9]at h
  cases op<;>first
   |rfl
   |(cases vb<;>first|rfl|(cases x<;>simp))
theorem bC5{op:BinOp}{t:TypeId}{x y:Operand}{a b:AV}{va vb:Value}(h:cb0 P t x y a b=true)(ra:VR β ω a va)(rb:VR β ω b vb)(w:World):
 (eqGuard op t x y va vb).run P w= .ok () w:=by
 unfold cb0 at h
 split at h
 ·simp only[VR]at ra;subst ra
  by_cases hx:ak9 x=true
  ·exact aC0 _ _ _ _ (.inl hx) w
  ·by_cases hy:ak9 y=true
   ·exact aC0 _ _ _ _ (.inr hy) w
   ·refine aR1 _ _ _ _ ?_ w
    cases vb<;>first|rfl|skip
    rcases b05 rb with rfl|⟨n,rfl⟩|rfl<;>simp_all
 ·cases h
 ·simp only[VR]at ra;obtain⟨xs,rfl,_⟩:=ra
  exact bL0 _ _ _ _ (by simpa using h) w
 ·cases h
 ·rename_i n1 n4 n2 n3
  refine aR1 _ _ _ _ ?_ w
  cases va<;>first|rfl|skip
  ·rcases b05 ra with rfl|⟨n,rfl⟩|rfl
   ·exact absurd rfl n1
   ·exact absurd rfl (n3 _)
   ·exact absurd rfl n4
  ·rcases db4 ra with⟨l,rfl⟩|⟨n,rfl⟩|rfl
   ·exact absurd rfl (n2 _)
   ·exact absurd rfl (n3 _)
   ·exact absurd rfl n4
theorem bj2{op:BinOp}{t:TypeId}{x y:Operand}{a b:AV}{va vb:Value}(h:ax5 P op t x y a b=true)(ra:VR β ω a va)(rb:VR β ω b vb)(w:World):
 (eqGuard op t x y va vb).run P w= .ok () w:=by
 unfold ax5 at h
 split at h
 ·exact bC5 h ra rb w
 ·exact bC5 h ra rb w
 ·rename_i n1 n2
  cases op<;>first|(exact absurd rfl n1)|(exact absurd rfl n2)|rfl
theorem cP5{op:UnOp}{x a:AV}{vx:Value}(h:unE op x=some a)(rx:VR β ω x vx): ∃v,VR β ω a v∧ ∀w,(Op.unary op vx).run P w= .ok v w:=by
 unfold unE at h
 split at h
 ·simp only[VR]at rx;subst rx
  simp only[d5]at h;subst h
  exact⟨_,rfl,fun w=>by simp[Op.unary,Op.intArith,V0]⟩
 ·simp only[VR]at rx;subst rx
  simp only[bg6,d5]at h;subst h
  exact⟨_,rfl,fun w=>by simp[Op.unary,Op.intBits,V0]⟩
 ·simp only[VR]at rx;subst rx
  simp only[d5]at h;subst h
  exact⟨_,rfl,fun w=>by simp[Op.unary]⟩
 ·cases h
theorem T3(b o n:Nat):(⟨b,o,none⟩:Addr).add n=⟨b,o+n,none⟩:=by
 unfold Addr.add;split
 ·rename_i e;subst e;rfl
 ·rfl
theorem bo5{t:TypeId}{x a:AV}{f:Nat}{vx:Value}(h:ap0 P t x f=some a)(rx:VR β ω x vx): ∃v,VR β ω a v∧ ∀w,(Instr.fieldAt t vx f).run P w= .ok v w:=by
 unfold ap0 at h
 split at h
 ·rename_i fields b o ht
  simp only[VR]at rx;obtain⟨L,hL,rfl⟩:=rx
  split at h
  ·rename_i fd hf
   split at h
   ·rename_i n hs
    simp only[d5]at h;subst h
    refine⟨_,⟨L,hL,rfl⟩,fun w=> ?_⟩
    simp only[Instr.fieldAt,Sem.run_bind,I0 ht,Result.andThen_ok,hf,Instr.sureAddr,Sem.run_pure,fieldPlace,L8 hs]
    simp[T3,n5]
   ·cases h
  ·cases h
 ·cases h
theorem ch2{t:TypeId}{x a:AV}{f:Nat}{vx:Value}(h:bV5 P t x f=some a)(rx:VR β ω x vx): ∃v,VR β ω a v∧ ∀w,(Instr.field t vx f).run P w= .ok v w:=by
 unfold bV5 at h
 split at h
 ·rename_i fields cs ht
  simp only[VR]at rx;obtain⟨xs,rfl,px⟩:=rx
  simp only[j9]at h
  obtain⟨fd,hf,hp⟩:=h
  obtain⟨v,rv,hv⟩:=ad5 hp px
  refine⟨v,rv,fun w=> ?_⟩
  simp only[Instr.field,Sem.run_bind,I0 ht,Result.andThen_ok,hf,asAgg,Sem.run_pure,hv]
 ·cases h
theorem bo6{t:TypeId}{x i a:AV}{vx vi:Value}(h:aJ7 P t x i=some a)(rx:VR β ω x vx)(ri:VR β ω i vi): ∃v,VR β ω a v∧ ∀w,(Instr.indexAt t vx vi).run P w= .ok v w:=by
 unfold aJ7 at h
 split at h
 ·rename_i k n
  simp only[VR]at ri;subst ri
  split at h
  ·rename_i m len elem b o hn ht
   have hn':=X5 hn;subst hn'
   simp only[VR]at rx;obtain⟨L,hL,rfl⟩:=rx
   split at h
   ·rename_i s hs
    by_cases hl:m<len
    ·rw[a32 hl]at h;simp only[cond_true,d5]at h;subst h
     refine⟨_,⟨L,hL,rfl⟩,fun w=> ?_⟩
     have hc:(0:Int)≤(m:Int)∧(m:Int)<(len:Int):=by omega
     simp only[Instr.indexAt,Sem.run_bind,asIntOf,Sem.run_pure,I0 ht,Result.andThen_ok,Instr.sureAddr,if_pos hc,L8 hs]
     simp[T3,n5]
    ·rw[a78 hl]at h;simp at h
   ·cases h
  ·rename_i m elem b o len cap hn ht
   have hn':=X5 hn;subst hn'
   simp only[VR]at rx;obtain⟨L,hL,rfl⟩:=rx
   split at h
   ·rename_i s hs
    by_cases hl:m<len
    ·rw[a32 hl]at h;simp only[cond_true,d5]at h;subst h
     refine⟨_,⟨L,hL,rfl⟩,fun w=> ?_⟩
     have hc:(0:Int)≤(m:Int)∧(m:Int)<(len:Int):=by omega
     simp only[Instr.indexAt,Sem.run_bind,asIntOf,Sem.run_pure,I0 ht,Result.andThen_ok,Instr.sureAddr,if_pos hc,L8 hs]
     simp[T3,n5]
    ·rw[a78 hl]at h;simp at h
   ·cases h
  ·rename_i m elem b o len sz hn ht
   have hn':=X5 hn;subst hn'
   simp only[VR]at rx;obtain⟨L,cap,hL,_,rfl⟩:=rx
   split at h
   ·rename_i s hs
    by_cases hl:m<len
    ·rw[a32 hl]at h;simp only[cond_true,d5]at h;subst h
     refine⟨_,⟨L,hL,rfl⟩,fun w=> ?_⟩
     have hc:(0:Int)≤(m:Int)∧(m:Int)<(len:Int):=by omega
     simp only[Instr.indexAt,Sem.run_bind,asIntOf,Sem.run_pure,I0 ht,Result.andThen_ok,Instr.sureAddr,if_pos hc,L8 hs]
     simp[T3,n5]
    ·rw[a78 hl]at h;simp at h
   ·cases h
  ·cases h
 ·cases h
theorem bC6{t:TypeId}{x i a:AV}{vx vi:Value}(h:bV6 P t x i=some a)(rx:VR β ω x vx)(ri:VR β ω i vi): ∃v,VR β ω a v∧ ∀w,(Instr.index t vx vi).run P w= .ok v w:=by
 unfold bV6 at h
 split at h
 ·rename_i k n
  simp only[VR]at ri;subst ri
  split at h
  ·rename_i m len elem cs hn ht
   have hn':=X5 hn;subst hn'
   simp only[VR]at rx;obtain⟨xs,rfl,px⟩:=rx
   split at h
   ·rename_i s hs
    by_cases hl:m<len
    ·rw[a32 hl]at h;simp only[cond_true]at h
     obtain⟨v,rv,hv⟩:=ad5 h px
     refine⟨v,rv,fun w=> ?_⟩
     have hc:(0:Int)≤(m:Int)∧(m:Int)<(len:Int):=by omega
     simp only[Instr.index,Sem.run_bind,asIntOf,Sem.run_pure,I0 ht,Result.andThen_ok,if_pos hc,L8 hs,Int.toNat_natCast,hv]
    ·rw[a78 hl]at h;simp at h
   ·cases h
  ·rename_i m s hn ht
   have hn':=X5 hn;subst hn'
   simp only[VR]at rx;subst rx
   simp only[j1]at h
   obtain⟨b,hb,rfl⟩:=h
   refine⟨_,rfl,fun w=> ?_⟩
   have hg:(ByteArray.mk s.toArray)[m]? =some b:=by
    have hlt:m<s.length:=by
     rcases g8 m s.length with h'|h'
     ·exact h'
     ·rw[j8 h']at hb;cases hb
    rw[ByteArray.getElem?_lt' _ _ (by simpa[ByteArray.size]using hlt)]
    rw[j2 hlt]at hb
    simp only[d5]at hb
    simp only[d5]
    rw[←hb]
    show(ByteArray.mk s.toArray).get m _=_
    simp[ByteArray.get]
   have hc:(0:Int)≤(m:Int):=by omega
   simp only[Instr.index,Sem.run_bind,asIntOf,Sem.run_pure,I0 ht,Result.andThen_ok,if_pos hc,Int.toNat_natCast,hg]
  ·cases h
 ·cases h
theorem bL1{i:Nat}{x a:AV}{vx:Value}(h:aU0 i x=some a)(rx:VR β ω x vx): ∃v,VR β ω a v∧ ∀w,(Instr.extract vx i).run P w= .ok v w:=by
 unfold aU0 at h
 split at h
 ·simp only[VR]at rx;obtain⟨xs,rfl,px⟩:=rx
  obtain⟨y,hy,ry⟩:=px.get i a h
  have hy':xs[i]? =some y:=by simpa using hy
  exact⟨y,ry,fun w=>by simp[Instr.extract,hy']⟩
 ·cases h
end Go.Ev
