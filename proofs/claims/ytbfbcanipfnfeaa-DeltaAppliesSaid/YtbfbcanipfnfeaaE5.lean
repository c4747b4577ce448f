import Derived.Test.YtbfbcanipfnfeaaE4
set_option linter.unusedVariables false
set_option linter.unusedSimpArgs false
namespace Go.Ev
open Go
variable{P:Program}{β:Bij}{ω:Opq}{K:Nat→Prop}{w0 w:World}{h:Heap}
def bU4:Value→Value→Bool
 | .int _ _,.int _ _=>true
 | .float _ _,.float _ _=>true
 | .complex _ _ _,.complex _ _ _=>true
 | .string _,.string _=>true
 |_,_=>false
theorem aH4(t:TypeId)(x y:Value)(hc:bU4 x y=false):binOp .eql t x y=(do pure (.bool (←Op.equal t x y))):=by
 cases x<;>cases y<;>first|rfl|(simp[bU4]at hc)
theorem aH5(t:TypeId)(x y:Value)(hc:bU4 x y=false):binOp .neq t x y=(do pure (.bool (!(←Op.equal t x y)))):=by
 cases x<;>cases y<;>first|rfl|(simp[bU4]at hc)
theorem ba1{n:Nat}{t:TypeId}{a b:AV}{x y:Value}{r:Bool}(h:eqE P n t a b=some r)(rx:VR β ω a x)(ry:VR β ω b y)(ha: ∀k n,a≠ .int k n)(hs: ∀l,a≠ .str l):
 bU4 x y=false∨(r=true∧ ∃k n,x= .int k n∧y= .int k n)∨(r=true∧ ∃s,x= .string s∧y= .string s):=by
 cases n with
 |zero=>cases h
 |succ n=>
  have h':a44 P (eqE P n) t a b=some r:=h
  unfold a44 at h'
  split at h'
  ·split at h'
   ·simp only[VR]at rx;subst rx;left;cases y<;>rfl
   ·cases h'
  ·split at h'
   ·exact absurd rfl (ha _ _)
   ·rename_i k m k' m'
    simp only[VR]at rx ry;subst rx;subst ry
    split at h'
    ·rename_i e;subst e
     cases hc:SX.beq m m' with
     |true=>rw[hc]at h';obtain rfl:=SX.beq_eq _ _ hc;simp at h';subst h';exact .inr (.inl ⟨rfl,_,_,rfl,rfl⟩)
     |false=>rw[hc]at h';simp at h'
    ·cases h'
   ·cases h'
  ·split at h'
   ·exact absurd rfl (hs _)
   ·rename_i m m'
    simp only[VR]at rx ry;subst rx;subst ry
    cases hc:SX.beq m m' with
    |true=>rw[hc]at h';obtain rfl:=SX.beq_eq _ _ hc;simp at h';subst h';exact .inr (.inr ⟨rfl,_,rfl,rfl⟩)
    |false=>rw[hc]at h';simp at h'
   ·cases h'
  ·left
   split at h'
   ·simp only[VR]at rx;subst rx;rfl
   ·simp only[VR]at rx;subst rx;rfl
   ·simp only[VR]at rx;obtain⟨L,_,rfl⟩:=rx;rfl
   ·simp only[VR]at rx;obtain⟨L,_,rfl⟩:=rx;rfl
   ·cases h'
  ·left
   split at h'
   ·simp only[VR]at rx;subst rx;rfl
   ·simp only[VR]at rx;subst rx;rfl
   ·simp only[VR]at rx;obtain⟨L,rfl,_⟩:=rx;rfl
   ·simp only[VR]at rx;obtain⟨L,rfl,_⟩:=rx;rfl
   ·cases h'
  ·left
   split at h'
   ·simp only[VR]at rx;subst rx;rfl
   ·obtain⟨_,_,_,rfl,_⟩:=aH0 h' rx;rfl
   ·cases h'
  ·left
   split at h'
   ·simp only[VR]at rx;subst rx;rfl
   ·obtain⟨_,rfl,_⟩:=aH1 h' rx;rfl
   ·cases h'
  ·left
   split at h'
   ·simp only[VR]at rx;subst rx;rfl
   ·rcases aH2 h' rx with⟨rfl,_⟩|⟨⟨_,_,_,rfl⟩,_⟩<;>rfl
   ·cases h'
  ·left
   split at h'
   ·simp only[VR]at rx;obtain⟨L,rfl,_⟩:=rx;rfl
   ·cases h'
  ·left
   split at h'
   ·simp only[VR]at rx;obtain⟨L,rfl,_⟩:=rx;rfl
   ·cases h'
  ·cases h'
theorem bl1{op:BinOp}{t:TypeId}{x y a:AV}{vx vy:Value}(h:cc5 P op t x y=some a)(rx:VR β ω x vx)(ry:VR β ω y vy)(ha: ∀k n,x≠ .int k n)(hs: ∀l,x≠ .str l):
 ∃v,VR β ω a v∧ ∀w,(binOp op t vx vy).run P w= .ok v w:=by
 cases op<;>simp only[cc5,reduceCtorEq]at h
 ·simp only[j4]at h
  obtain⟨r,hr,rfl⟩:=h
  refine⟨_,rfl,fun w=> ?_⟩
  rcases ba1 hr rx ry ha hs with hc|⟨rfl,k,n,rfl,rfl⟩|⟨rfl,s,rfl,rfl⟩
  ·rw[aH4 _ _ _ hc]
   simp[Op.equal,Op.maxDepth,aH3 10000 hr rx ry]
  ·simp[binOp,Op.intCmp]
  ·simp[binOp,Op.stringOp]
 ·simp only[j4]at h
  obtain⟨r,hr,rfl⟩:=h
  refine⟨_,rfl,fun w=> ?_⟩
  rcases ba1 hr rx ry ha hs with hc|⟨rfl,k,n,rfl,rfl⟩|⟨rfl,s,rfl,rfl⟩
  ·rw[aH5 _ _ _ hc]
   simp[Op.equal,Op.maxDepth,aH3 10000 hr rx ry]
  ·simp[binOp,Op.intCmp]
  ·simp[binOp,Op.stringOp]
theorem cz4{op:BinOp}{k:IntKind}{m:Int}{n:Nat}{a:AV}{v:Value}(t:TypeId)(h:d66 op k m n=some a)(rv:VR β ω (.atl n) v):
 ∃u,VR β ω a u∧ ∀w,(binOp op t (.int k m) v).run P w= .ok u w:=by
 unfold d66 at h
 split at h
 ·cases hc:aF5 (.ofNat n) m with
  |true=>rw[hc]at h;cases h
  |false=>
   rw[hc]at h
   simp only[cond_false,a8]at h;subst h
   obtain⟨q,rfl,hq⟩:=rv
   have h1:aF5 q m=false:=by
    rw[a69,decide_eq_false_iff_not]at hc⊢
    have:(Int.ofNat n:Int)=(n:Int):=rfl
    omega
   have h2:aS0 .gtr .i64 m q=some (.bool false):=by simp only[aS0,h1]
   exact aC6 t h2 ⟨by decide,by decide⟩
 ·cases h
theorem bU5{op:BinOp}{t:TypeId}{x y a:AV}{vx vy:Value}(h:d27 P op t x y=some a)(rx:VR β ω x vx)(ry:VR β ω y vy):
 ∃v,VR β ω a v∧ ∀w,(binOp op t vx vy).run P w= .ok v w:=by
 unfold d27 at h
 split at h
 ·rename_i k m
  split at h
  ·rename_i k' m'
   simp only[VR]at rx ry;subst rx;subst ry
   unfold dc6 at h
   split at h
   ·obtain⟨v,r,hv⟩:=ba0 (P:=P) (β:=β) (ω:=ω) (k':=k') h
    exact⟨v,r,fun w=>by rw[←hv w];rfl⟩
   ·obtain⟨v,r,hv⟩:=ba0 (P:=P) (β:=β) (ω:=ω) (k':=k') h
    exact⟨v,r,fun w=>by rw[←hv w];rfl⟩
   ·rename_i n1 n2
    split at h
    ·rename_i e;subst e
     exact aC6 t h ⟨n1,n2⟩
    ·cases h
  ·simp only[VR]at rx;subst rx
   exact cz4 t h ry
  ·cases h
 ·split at h
  ·simp only[VR]at rx ry;subst rx;subst ry
   exact b03 t h
  ·cases h
 ·exact bl1 h rx ry (fun k n e=>by subst e;simp_all) (fun l e=>by subst e;simp_all)
theorem aH6{b:AV}(h:VR β ω b .nilIface):b= .nili∨(∃n,b= .opq n)∨b= .any:=by
 cases b<;>simp[VR]at h⊢
theorem cU7{b:AV}{cs:Array Value}(h:VR β ω b (.agg cs)):(∃l,b= .agg l)∨(∃n,b= .opq n)∨b= .any:=by
 cases b<;>simp[VR]at h⊢
def cU8(va vb:Value):Bool:=
 match va,vb with
 | .nilIface,.nilIface=>false
 | .agg _,.agg _=>false
 |_,_=>true
theorem az2(op:BinOp)(t:TypeId)(x y:Operand){va vb:Value}(h:cU8 va vb=true)(w:World):(eqGuard op t x y va vb).run P w= .ok () w:=by
 unfold eqGuard
 cases op<;>first
  |rfl
  |(cases va<;>cases vb<;>first|rfl|(simp[cU8]at h))
theorem bl2(op:BinOp)(t:TypeId)(x y:Operand){ca:Array Value}{vb:Value}(h:P.eqGuardType P.depth t=false)(w:World):(eqGuard op t x y (.agg ca) vb).run P w= .ok () w:=by
 unfold eqGuard
 cases op<;>first
  |rfl
  |(cases vb<;>first|rfl|simp[h])
theorem aq9(op:BinOp)(t:TypeId)(x y:Operand){vb:Value}(h:af2 x=true∨af2 y=true)(w:World):(eqGuard op t x y .nilIface vb).run P w= .ok () w:=by
 unfold eqGuard
 rcases h with h|h
 ·cases x<;>simp[af2]at h
  cases op<;>first
   |rfl
   |(cases vb<;>first|rfl|simp)
 ·cases y<;>simp[af2]at h
  cases op<;>first
   |rfl
   |(cases vb<;>first|rfl|(cases x<;>simp))
theorem ba2{op:BinOp}{t:TypeId}{x y:Operand}{a b:AV}{va vb:Value}(h:bN6 P t x y a b=true)(ra:VR β ω a va)(rb:VR β ω b vb)(w:World):
 (eqGuard op t x y va vb).run P w= .ok () w:=by
 unfold bN6 at h
 split at h
 ·simp only[VR]at ra;subst ra
  by_cases hx:af2 x=true
  ·exact aq9 _ _ _ _ (.inl hx) w
  ·by_cases hy:af2 y=true
   ·exact aq9 _ _ _ _ (.inr hy) w
   ·refine az2 _ _ _ _ ?_ w
    cases vb<;>first|rfl|skip
    rcases aH6 rb with rfl|⟨n,rfl⟩|rfl<;>simp_all
 ·cases h
 ·simp only[VR]at ra;obtain⟨xs,rfl,_⟩:=ra
  exact bl2 _ _ _ _ (by simpa using h) w
 ·cases h
 ·rename_i n1 n4 n2 n3
  refine az2 _ _ _ _ ?_ w
  cases va<;>first|rfl|skip
  ·rcases aH6 ra with rfl|⟨n,rfl⟩|rfl
   ·exact absurd rfl n1
   ·exact absurd rfl (n3 _)
   ·exact absurd rfl n4
  ·rcases cU7 ra with⟨l,rfl⟩|⟨n,rfl⟩|rfl
   ·exact absurd rfl (n2 _)
   ·exact absurd rfl (n3 _)
   ·exact absurd rfl n4
theorem aU5{op:BinOp}{t:TypeId}{x y:Operand}{a b:AV}{va vb:Value}(h:an2 P op t x y a b=true)(ra:VR β ω a va)(rb:VR β ω b vb)(w:World):
 (eqGuard op t x y va vb).run P w= .ok () w:=by
 unfold an2 at h
 split at h
 ·exact ba2 h ra rb w
 ·exact ba2 h ra rb w
 ·rename_i n1 n2
  cases op<;>first|(exact absurd rfl n1)|(exact absurd rfl n2)|rfl
theorem cr5{op:UnOp}{x a:AV}{vx:Value}(h:unE op x=some a)(rx:VR β ω x vx): ∃v,VR β ω a v∧ ∀w,(Op.unary op vx).run P w= .ok v w:=by
 unfold unE at h
 split at h
 ·simp only[VR]at rx;subst rx
  simp only[a8]at h;subst h
  exact⟨_,rfl,fun w=>by simp[Op.unary,Op.intArith,W7]⟩
 ·simp only[VR]at rx;subst rx
  simp only[aS0,a8]at h;subst h
  exact⟨_,rfl,fun w=>by simp[Op.unary,Op.intBits,W7]⟩
 ·simp only[VR]at rx;subst rx
  simp only[a8]at h;subst h
  exact⟨_,rfl,fun w=>by simp[Op.unary]⟩
 ·cases h
theorem U7(b o n:Nat):(⟨b,o,none⟩:Addr).add n=⟨b,o+n,none⟩:=by
 unfold Addr.add;split
 ·rename_i e;subst e;rfl
 ·rfl
theorem b04{t:TypeId}{x a:AV}{f:Nat}{vx:Value}(h:ai7 P t x f=some a)(rx:VR β ω x vx): ∃v,VR β ω a v∧ ∀w,(Instr.fieldAt t vx f).run P w= .ok v w:=by
 unfold ai7 at h
 split at h
 ·rename_i fields b o ht
  simp only[VR]at rx;obtain⟨L,hL,rfl⟩:=rx
  split at h
  ·rename_i fd hf
   split at h
   ·rename_i n hs
    simp only[a8]at h;subst h
    refine⟨_,⟨L,hL,rfl⟩,fun w=> ?_⟩
    simp only[Instr.fieldAt,Sem.run_bind,M9 ht,Result.andThen_ok,hf,Instr.sureAddr,Sem.run_pure,fieldPlace,O2 hs]
    simp[U7,l8]
   ·cases h
  ·cases h
 ·cases h
theorem bU6{t:TypeId}{x a:AV}{f:Nat}{vx:Value}(h:bt9 P t x f=some a)(rx:VR β ω x vx): ∃v,VR β ω a v∧ ∀w,(Instr.field t vx f).run P w= .ok v w:=by
 unfold bt9 at h
 split at h
 ·rename_i fields cs ht
  simp only[VR]at rx;obtain⟨xs,rfl,px⟩:=rx
  simp only[j6]at h
  obtain⟨fd,hf,hp⟩:=h
  obtain⟨v,rv,hv⟩:=ac9 hp px
  refine⟨v,rv,fun w=> ?_⟩
  simp only[Instr.field,Sem.run_bind,M9 ht,Result.andThen_ok,hf,asAgg,Sem.run_pure,hv]
 ·cases h
theorem b05{t:TypeId}{x i a:AV}{vx vi:Value}(h:av9 P t x i=some a)(rx:VR β ω x vx)(ri:VR β ω i vi): ∃v,VR β ω a v∧ ∀w,(Instr.indexAt t vx vi).run P w= .ok v w:=by
 unfold av9 at h
 split at h
 ·rename_i k n
  simp only[VR]at ri;subst ri
  split at h
  ·rename_i m len elem b o hn ht
   have hn':=X5 hn;subst hn'
   simp only[VR]at rx;obtain⟨L,hL,rfl⟩:=rx
   split at h
   ·rename_i s hs
    by_cases hl:m<len
    ·rw[a40 hl]at h;simp only[cond_true,a8]at h;subst h
     refine⟨_,⟨L,hL,rfl⟩,fun w=> ?_⟩
     have hc:(0:Int)≤(m:Int)∧(m:Int)<(len:Int):=by omega
     simp only[Instr.indexAt,Sem.run_bind,asIntOf,Sem.run_pure,M9 ht,Result.andThen_ok,Instr.sureAddr,if_pos hc,O2 hs]
     simp[U7,l8]
    ·rw[a89 hl]at h;simp at h
   ·cases h
  ·rename_i m elem b o len cap hn ht
   have hn':=X5 hn;subst hn'
   simp only[VR]at rx;obtain⟨L,hL,rfl⟩:=rx
   split at h
   ·rename_i s hs
    by_cases hl:m<len
    ·rw[a40 hl]at h;simp only[cond_true,a8]at h;subst h
     refine⟨_,⟨L,hL,rfl⟩,fun w=> ?_⟩
     have hc:(0:Int)≤(m:Int)∧(m:Int)<(len:Int):=by omega
     simp only[Instr.indexAt,Sem.run_bind,asIntOf,Sem.run_pure,M9 ht,Result.andThen_ok,Instr.sureAddr,if_pos hc,O2 hs]
     simp[U7,l8]
    ·rw[a89 hl]at h;simp at h
   ·cases h
  ·rename_i m elem b o len sz hn ht
   have hn':=X5 hn;subst hn'
   simp only[VR]at rx;obtain⟨L,cap,hL,_,rfl⟩:=rx
   split at h
   ·rename_i s hs
    by_cases hl:m<len
    ·rw[a40 hl]at h;simp only[cond_true,a8]at h;subst h
     refine⟨_,⟨L,hL,rfl⟩,fun w=> ?_⟩
     have hc:(0:Int)≤(m:Int)∧(m:Int)<(len:Int):=by omega
     simp only[Instr.indexAt,Sem.run_bind,asIntOf,Sem.run_pure,M9 ht,Result.andThen_ok,Instr.sureAddr,if_pos hc,O2 hs]
     simp[U7,l8]
    ·rw[a89 hl]at h;simp at h
   ·cases h
  ·cases h
 ·cases h
theorem ba3{t:TypeId}{x i a:AV}{vx vi:Value}(h:bu0 P t x i=some a)(rx:VR β ω x vx)(ri:VR β ω i vi): ∃v,VR β ω a v∧ ∀w,(Instr.index t vx vi).run P w= .ok v w:=by
 unfold bu0 at h
 split at h
 ·rename_i k n
  simp only[VR]at ri;subst ri
  split at h
  ·rename_i m len elem cs hn ht
   have hn':=X5 hn;subst hn'
   simp only[VR]at rx;obtain⟨xs,rfl,px⟩:=rx
   split at h
   ·rename_i s hs
    by_cases hl:m<len
    ·rw[a40 hl]at h;simp only[cond_true]at h
     obtain⟨v,rv,hv⟩:=ac9 h px
     refine⟨v,rv,fun w=> ?_⟩
     have hc:(0:Int)≤(m:Int)∧(m:Int)<(len:Int):=by omega
     simp only[Instr.index,Sem.run_bind,asIntOf,Sem.run_pure,M9 ht,Result.andThen_ok,if_pos hc,O2 hs,Int.toNat_natCast,hv]
    ·rw[a89 hl]at h;simp at h
   ·cases h
  ·rename_i m s hn ht
   have hn':=X5 hn;subst hn'
   simp only[VR]at rx;subst rx
   simp only[j4]at h
   obtain⟨b,hb,rfl⟩:=h
   refine⟨_,rfl,fun w=> ?_⟩
   have hg:(ByteArray.mk s.toArray)[m]? =some b:=by
    have hlt:m<s.length:=by
     rcases d8 m s.length with h'|h'
     ·exact h'
     ·rw[j7 h']at hb;cases hb
    rw[ByteArray.getElem?_lt' _ _ (by simpa[ByteArray.size]using hlt)]
    rw[j0 hlt]at hb
    simp only[a8]at hb
    simp only[a8]
    rw[←hb]
    show(ByteArray.mk s.toArray).get m _=_
    simp[ByteArray.get]
   have hc:(0:Int)≤(m:Int):=by omega
   simp only[Instr.index,Sem.run_bind,asIntOf,Sem.run_pure,M9 ht,Result.andThen_ok,if_pos hc,Int.toNat_natCast,hg]
  ·cases h
 ·cases h
theorem bl3{i:Nat}{x a:AV}{vx:Value}(h:aC3 i x=some a)(rx:VR β ω x vx): ∃v,VR β ω a v∧ ∀w,(Instr.extract vx i).run P w= .ok v w:=by
 unfold aC3 at h
 split at h
 ·simp only[VR]at rx;obtain⟨xs,rfl,px⟩:=rx
  obtain⟨y,hy,ry⟩:=px.get i a h
  have hy':xs[i]? =some y:=by simpa using hy
  exact⟨y,ry,fun w=>by simp[Instr.extract,hy']⟩
 ·cases h
end Go.Ev
