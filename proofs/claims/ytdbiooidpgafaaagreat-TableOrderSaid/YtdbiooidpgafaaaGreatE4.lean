import Derived.Test.YtdbiooidpgafaaaGreatE3
import Derived.ChangeKeysEq
import Derived.Laws.StructEq
set_option linter.unusedVariables false
set_option linter.unusedSimpArgs false
namespace Go.Ev
open Go
variable{P:Program}{β:Bij}{ω:Opq}{K:Nat→Prop}{w0 w:World}{h:Heap}
theorem at9{t:TypeId}{s:Nat}(e:ae2 P t=some s): ∃i,P.info? t=some i∧i.size=s:=by
 simpa[ae2]using e
theorem R2{t:TypeId}{s:Nat}(e:ae2 P t=some s)(w:World):(sizeOf t).run P w= .ok s w:=by
 obtain⟨i,hi,rfl⟩:=at9 e
 simp[sizeOf,typeInfo,hi]
theorem Q0{t:TypeId}{d:TypeDesc}(e:P.underlying t=some d)(w:World):(underlying t).run P w= .ok d w:=run_underlying e w
theorem ag3{t:TypeId}{b:Bool}(e:cW7 P t=some b)(w:World):(isAgg t).run P w= .ok b w:=by
 simp only[cW7,l5]at e
 obtain⟨d,hd,rfl⟩:=e
 simp only[isAgg,Sem.run_bind,Q0 hd,Result.andThen_ok]
 cases d<;>rfl
theorem a26{t:TypeId}{z:AV}(e:a10 P t=some z): ∃v,bn8 v=some z∧ ∀w,(zeroValue t).run P w= .ok v w:=by
 simp only[a10,l7]at e
 obtain⟨v,⟨i,hi,hz⟩,hv⟩:=e
 exact⟨v,hv,fun w=>by simp[zeroValue,typeInfo,hi,hz]⟩
theorem aa3(a b:Int):aJ1 a b=decide (a<b):=by
 cases a<;>cases b<;>simp only[aJ1]<;>rw[v7]<;>simp<;>omega
theorem aa4(a b:Int):bz2 a b=(a==b):=by
 cases a<;>cases b<;>simp only[bz2]<;>rw[v7]<;>simp<;>omega
theorem au0(k:IntKind)(m:Nat)(h:m<cl6 k):k.wrap (m:Int)=m:=by
 cases k<;>simp only[cl6]at h<;>simp only[IntKind.wrap,IntKind.bits,IntKind.signed]<;>simp<;>omega
theorem a35(k:IntKind)(n:Int):at3 k n=k.wrap n:=by
 cases n with
 |ofNat m=>
  simp only[at3]
  by_cases h:m<cl6 k
  ·rw[a88 h];exact(au0 k m h).symm
  ·rw[ab7 h];rfl
 |negSucc m=>rfl
theorem a14{i:Int}{n:Nat}(h:af6 i=some n):i=(n:Int):=by
 cases i with
 |ofNat m=>simp[af6]at h;subst h;rfl
 |negSucc m=>simp[af6]at h
theorem aG9{op:BinOp}{k:IntKind}{x y:Int}{a:AV}(t:TypeId)(h:aU2 op k x y=some a)(hs:op≠ .shl∧op≠ .shr):
 ∃v,VR β ω a v∧ ∀w,(binOp op t (.int k x) (.int k y)).run P w= .ok v w:=by
 cases op<;>simp only[aU2,b9,reduceCtorEq]at h
 all_goals first
  |(exact absurd rfl hs.1)
  |(exact absurd rfl hs.2)
  |skip
 case quo=>
  by_cases hy:y=0
  ·subst hy;simp[bz2]at h
  ·have:bz2 y 0=false:=by rw[aa4];simpa using hy
   rw[this]at h;simp only[cond_false,b9]at h;subst h
   exact⟨_,rfl,fun w=>by simp[binOp,Op.intDiv,hy,a35]⟩
 case rem=>
  by_cases hy:y=0
  ·subst hy;simp[bz2]at h
  ·have:bz2 y 0=false:=by rw[aa4];simpa using hy
   rw[this]at h;simp only[cond_false,b9]at h;subst h
   exact⟨_,rfl,fun w=>by simp[binOp,Op.intDiv,hy]⟩
 all_goals (subst h;refine⟨_,rfl,fun w=> ?_⟩)
 all_goals simp[binOp,Op.intArith,Op.intBits,Op.intCmp,a35,aa4,aa3]
 all_goals (rw[v7];simp)
theorem bd6{op:BinOp}{k k':IntKind}{x y:Int}{a:AV}(h:aV9 op k x y=some a):
 ∃v,VR β ω a v∧ ∀w,(Op.shift op k x k' y).run P w= .ok v w:=by
 unfold aV9 at h
 split at h
 ·cases h
 ·rename_i n hn
  have hy:=a14 hn
  subst hy
  have h0: ¬((n:Int)<0):=by omega
  cases op<;>simp only[reduceCtorEq]at h
  ·simp only[b9]at h;subst h
   exact⟨_,rfl,fun w=>by simp[Op.shift,h0,a35]⟩
  ·simp only[b9]at h;subst h
   refine⟨_,rfl,fun w=> ?_⟩
   simp only[Op.shift,h0,if_false,Int.toNat_natCast]
   cases x with
   |ofNat m=>
    have e:((2:Int)^min n k.bits)=((2^min n k.bits:Nat):Int):=by simp
    have e2:(Int.ofNat m).fdiv (2^min n k.bits)=Int.ofNat (m/2^min n k.bits):=by
     rw[e,I2 _ (Int.natCast_nonneg _)];rfl
    simp only[e2,Sem.run_pure]
   |negSucc m=>rfl
theorem ag4: ∀(x y:List UInt8),cF3 x y=(x==y)
 | [],[]=>rfl
 | [],_::_=>rfl
 |_::_,[]=>rfl
 |a::x,b::y=>by
  show(bif Nat.beq a.toNat b.toNat then cF3 x y else false)=_
  by_cases e:a=b
  ·subst e;rw[show Nat.beq a.toNat a.toNat=true by simp,cond_true,ag4 x y];simp
  ·have:Nat.beq a.toNat b.toNat=false:=by
    cases h:Nat.beq a.toNat b.toNat with
    |false=>rfl
    |true=>exact absurd (UInt8.toNat_inj.1 (by simpa using h)) e
   rw[this,cond_false];simp[e]
theorem cB3: ∀(x y:List UInt8),ltB x y=Op.bytesLess x y
 | [],[]=>rfl
 | [],_::_=>rfl
 |_::_,[]=>rfl
 |a::x,b::y=>by
  show(bif Nat.blt a.toNat b.toNat then true else bif Nat.beq a.toNat b.toNat then ltB x y else false)=(a<b||(a==b&&Op.bytesLess x y))
  rw[cB3 x y]
  by_cases h1:a<b
  ·rw[a88 (UInt8.lt_iff_toNat_lt.1 h1)];simp[h1]
  ·rw[ab7 (fun hh=>h1 (UInt8.lt_iff_toNat_lt.2 hh))]
   by_cases e:a=b
   ·subst e;simp
   ·have:Nat.beq a.toNat b.toNat=false:=by
     cases h:Nat.beq a.toNat b.toNat with
     |false=>rfl
     |true=>exact absurd (UInt8.toNat_inj.1 (by simpa using h)) e
    rw[this];simp[h1,e]
theorem az5: ∀(x y:List UInt8),(Op.bytesLess x y||(x==y))= !Op.bytesLess y x
 | [],[]=>rfl
 | [],_::_=>rfl
 |_::_,[]=>rfl
 |a::x,b::y=>by
  have ih:=az5 x y
  simp only[Op.bytesLess]
  rcases F6 a.toNat b.toNat with h|h|h
  ·have h1:a<b:=UInt8.lt_iff_toNat_lt.2 h
   have h2: ¬b<a:=fun hh=>by have:=UInt8.lt_iff_toNat_lt.1 hh;omega
   have h3:b≠a:=fun e=>by subst e;omega
   simp[h1,h2,h3]
  ·have e:a=b:=UInt8.toNat_inj.1 h
   subst e
   have h1: ¬a<a:=fun hh=>by have:=UInt8.lt_iff_toNat_lt.1 hh;omega
   simp[h1]at ih⊢
   exact ih
  ·have h1:b<a:=UInt8.lt_iff_toNat_lt.2 h
   have h2: ¬a<b:=fun hh=>by have:=UInt8.lt_iff_toNat_lt.1 hh;omega
   have h3:a≠b:=fun e=>by subst e;omega
   simp[h1,h2,h3]
theorem b21{op:BinOp}{x y:List UInt8}{a:AV}(t:TypeId)(h:bL4 op x y=some a):
 ∃v,VR β ω a v∧ ∀w,(binOp op t (.string ⟨x.toArray⟩) (.string ⟨y.toArray⟩)).run P w= .ok v w:=by
 have hlt:=az5 x y
 have hlt':=az5 y x
 cases op<;>simp only[bL4,b9,reduceCtorEq]at h
 case add=>
  by_cases hl:x.length+y.length<aW0
  ·rw[a88 hl]at h;simp only[cond_true,b9]at h;subst h
   refine⟨_,rfl,fun w=> ?_⟩
   have h1:(ByteArray.mk x.toArray).size=x.length:=by simp[ByteArray.size]
   have h2:(ByteArray.mk y.toArray).size=y.length:=by simp[ByteArray.size]
   have hn: ¬(((x.length+y.length:Nat):Int)>IntKind.i64.max):=by
    simp only[aW0]at hl
    simp[IntKind.max,IntKind.signed,IntKind.bits];omega
   simp only[binOp,Op.stringOp,h1,h2,if_neg hn,Sem.run_pure]
   congr 2
  ·rw[ab7 hl]at h;simp at h
 all_goals (subst h;refine⟨_,rfl,fun w=> ?_⟩)
 all_goals simp only[binOp,Op.stringOp,ByteArray.toList_mk,Sem.run_pure,ag4,cB3]
 all_goals (try simp only[hlt,I3])
theorem ag5{t:TypeId}{cs:List AV}{xs:Array Value}{off:Nat}{a:AV}(h:ah7 P t cs off=some a)(r:VRs β ω cs xs.toList):
 ∃v,VR β ω a v∧ ∀w,(part t xs off).run P w= .ok v w:=by
 unfold ah7 at h
 split at h
 ·rename_i n h1 h2
  by_cases hl:off+n≤cs.length
  ·rw[Q2.2 hl]at h;simp only[cond_true,b9]at h;subst h
   refine⟨.agg (xs.extract off (off+n)),⟨_,rfl,?_⟩,fun w=> ?_⟩
   ·have:=(r.drop off).take n
    simpa[List.take_drop,y9]using this
   ·simp[part,ag3 h1,R2 h2]
  ·rw[show Nat.ble (off+n) cs.length=false by
    cases e:Nat.ble (off+n) cs.length with
    |false=>rfl
    |true=>exact absurd (Q2.1 e) hl]at h;simp at h
 ·rename_i n h1 h2
  obtain⟨y,hy,hr⟩:=r.get off a h
  refine⟨y,hr,fun w=> ?_⟩
  have hy':xs[off]? =some y:=by simpa using hy
  simp[part,ag3 h1,hy']
 ·cases h
theorem bq6{a b:Nat}(h: ¬a=b):Nat.beq a b=false:=by
 cases e:Nat.beq a b with
 |false=>rfl
 |true=>exact absurd (P9.1 e) h
theorem aK5{a:AV}{b:Bool}{v:Value}(h:bb6 a=some b)(r:VR β ω a v): ∃x n c,v= .slice x n c∧b=x.isNone:=by
 cases a<;>simp only[bb6,b9,reduceCtorEq]at h<;>simp only[VR]at r<;>subst h
 ·subst r;exact⟨_,_,_,rfl,rfl⟩
 ·obtain⟨L,_,rfl⟩:=r;exact⟨_,_,_,rfl,rfl⟩
 ·obtain⟨L,c,_,_,rfl⟩:=r;exact⟨_,_,_,rfl,rfl⟩
 ·obtain⟨L,a,c,_,rfl,_⟩:=r;exact⟨_,_,_,rfl,rfl⟩
 ·obtain⟨a,rfl⟩:=r;exact⟨_,_,_,rfl,rfl⟩
theorem aK6{a:AV}{b:Bool}{v:Value}(h:bz3 a=some b)(r:VR β ω a v): ∃x,v= .map x∧b=x.isNone:=by
 cases a<;>simp only[bz3,b9,reduceCtorEq]at h<;>simp only[VR]at r<;>subst h
 ·subst r;exact⟨_,rfl,rfl⟩
 ·obtain⟨L,_,rfl⟩:=r;exact⟨_,rfl,rfl⟩
theorem aK7{a:AV}{b:Bool}{v:Value}(h:bz4 a=some b)(r:VR β ω a v):(v= .nilFunc∧b=true)∨(∃f x y,v= .func f x y)∧b=false:=by
 cases a<;>simp only[bz4,b9,reduceCtorEq]at h<;>simp only[VR]at r<;>subst h
 ·exact .inl ⟨r,rfl⟩
 ·obtain⟨_,x,y,rfl,_⟩:=r;exact .inr ⟨⟨_,_,_,rfl⟩,rfl⟩
 ·obtain⟨L,_,rfl⟩:=r;exact .inr ⟨⟨_,_,_,rfl⟩,rfl⟩
theorem ai6(x y:List UInt8):((ByteArray.mk x.toArray)==(ByteArray.mk y.toArray))=(x==y):=by
 rw[beq_toListBytes,ByteArray.toList_mk,ByteArray.toList_mk]
theorem ar0{ih:TypeId→AV→AV→Option Bool}{d:Nat}
 (hih: ∀t a b x y r,ih t a b=some r→VR β ω a x→VR β ω b y→ ∀w,(Op.equalIn d t x y).run P w= .ok r w)
 {xs ys:List AV} {vx vy:Array Value} (rx:VRs β ω xs vx.toList) (ry:VRs β ω ys vy.toList):
 ∀(fs:List Field) (r:Bool),ab9 P ih xs ys fs=some r→ ∀w,
  (forIn (m:=Sem) fs ((none,()):Option Bool×Unit) fun f _=>(do
   if f.name≠ "_" then do
    let a ←part f.type vx f.offset
    let b ←part f.type vy f.offset
    let c ←Op.equalIn d f.type a b
    if(!c)=true then pure (.done (some false,()))else pure (.yield (none,()))
   else pure (.yield (none,())))).run P w= .ok (if r then(none,())else(some false,())) w
 | [],r,h,w=>by
   simp only[ab9,b9]at h;subst h;simp
 |f::fs,r,h,w=>by
  simp only[ab9]at h
  by_cases hn:f.name= "_"
  ·have hb:(f.name== "_")=true:=by simpa using hn
   rw[hb]at h;simp only[cond_true]at h
   have:=ar0 hih rx ry fs r h w
   simp only[E3,hn,ne_eq,not_true_eq_false,if_false,pure_bind]
   exact this
  ·have hb:(f.name== "_")=false:=by simpa using hn
   rw[hb]at h;simp only[cond_false]at h
   split at h
   ·rename_i a b ha hb'
    obtain⟨va,ra,hva⟩:=ag5 ha rx
    obtain⟨vb,rb,hvb⟩:=ag5 hb' ry
    split at h
    ·rename_i he
     have:=ar0 hih rx ry fs r h w
     simp only[E3,hn,ne_eq,not_false_eq_true,if_true,Sem.run_bind,hva,hvb,Result.andThen_ok,hih _ _ _ _ _ _ he ra rb,B3,k7,if_false,Sem.run_pure]
     exact this
    ·rename_i x he
     cases r with
     |true=>exact absurd h he
     |false=>
      have he':=h
      simp only[E3,hn,ne_eq,not_false_eq_true,if_true,Sem.run_bind,hva,hvb,Result.andThen_ok,hih _ _ _ _ _ _ he' ra rb,Bool.not_false,Sem.run_pure]
      simp
   ·cases h
theorem aW7{ih:TypeId→AV→AV→Option Bool}{d e n:Nat}
 (hih: ∀t a b x y r,ih t a b=some r→VR β ω a x→VR β ω b y→ ∀w,(Op.equalIn d t x y).run P w= .ok r w)
 {xs ys:List AV} {vx vy:Array Value} (rx:VRs β ω xs vx.toList) (ry:VRs β ω ys vy.toList):
 ∀(k i:Nat) (r:Bool),aJ2 P ih e n xs ys k i=some r→ ∀w,
  (forIn (m:=Sem) (List.range' i k) ((none,()):Option Bool×Unit) fun i _=>(do
   let a ←part e vx (i*n)
   let b ←part e vy (i*n)
   let c ←Op.equalIn d e a b
   if(!c)=true then pure (.done (some false,()))else pure (.yield (none,())))).run P w= .ok (if r then(none,())else(some false,())) w
 |0,i,r,h,w=>by
  simp only[aJ2,b9]at h;subst h;simp
 |k+1,i,r,h,w=>by
  simp only[aJ2]at h
  split at h
  ·rename_i a b ha hb'
   obtain⟨va,ra,hva⟩:=ag5 ha rx
   obtain⟨vb,rb,hvb⟩:=ag5 hb' ry
   split at h
   ·rename_i he
    have:=aW7 hih rx ry k (i+1) r h w
    simp only[A8,E3,Sem.run_bind,hva,hvb,Result.andThen_ok,hih _ _ _ _ _ _ he ra rb,B3,k7,if_false,Sem.run_pure]
    exact this
   ·rename_i x he
    cases r with
    |true=>exact absurd h he
    |false=>
     have he':=h
     simp only[A8,E3,Sem.run_bind,hva,hvb,Result.andThen_ok,hih _ _ _ _ _ _ he' ra rb,Bool.not_false,Sem.run_pure]
     simp
  ·cases h
set_option maxHeartbeats 4000000 in
theorem bZ6{ih:TypeId→AV→AV→Option Bool}{d:Nat}
 (hih: ∀t a b x y r,ih t a b=some r→VR β ω a x→VR β ω b y→ ∀w,(Op.equalIn d t x y).run P w= .ok r w)
 {t:TypeId} {a b:AV} {x y:Value} {r:Bool} (h:a84 P ih t a b=some r) (rx:VR β ω a x) (ry:VR β ω b y) (w:World):
 (Op.equalIn (d+1) t x y).run P w= .ok r w:=by
 unfold a84 at h
 split at h
 ·
  rename_i ht
  split at h
  ·simp only[VR]at rx ry;subst rx;subst ry
   simp only[b9]at h;subst h
   simp[Op.equalIn,Q0 ht]
  ·cases h
 ·
  rename_i k0 ht
  split at h
  ·rename_i k m k' m'
   simp only[VR]at rx ry;subst rx;subst ry
   split at h
   ·rename_i e;subst e
    simp only[b9]at h;subst h
    simp[Op.equalIn,Q0 ht,aa4]
   ·cases h
  ·rename_i k m k' m'
   simp only[VR]at rx ry;subst rx;subst ry
   split at h
   ·rename_i e;subst e
    cases hc:SX.beq m m' with
    |true=>
     rw[hc]at h
     obtain rfl:=SX.beq_eq _ _ hc
     simp at h;subst h
     simp[Op.equalIn,Q0 ht]
    |false=>rw[hc]at h;simp at h
   ·cases h
  ·cases h
 ·
  rename_i ht
  split at h
  ·simp only[VR]at rx ry;subst rx;subst ry
   simp only[b9]at h;subst h
   rename_i s s'
   simp[Op.equalIn,Q0 ht,ag4,ai6]
  ·rename_i m m'
   simp only[VR]at rx ry;subst rx;subst ry
   cases hc:SX.beq m m' with
   |true=>
    rw[hc]at h
    obtain rfl:=SX.beq_eq _ _ hc
    simp at h;subst h
    simp[Op.equalIn,Q0 ht,ai6]
   |false=>rw[hc]at h;simp at h
  ·cases h
 ·
  rename_i el ht
  split at h
  ·simp only[VR]at rx ry;subst rx;subst ry
   simp only[b9]at h;subst h
   simp[Op.equalIn,Q0 ht]
  ·simp only[VR]at rx ry;subst rx;obtain⟨L,_,rfl⟩:=ry
   simp only[b9]at h;subst h
   simp[Op.equalIn,Q0 ht]
  ·simp only[VR]at rx ry;subst ry;obtain⟨L,_,rfl⟩:=rx
   simp only[b9]at h;subst h
   simp[Op.equalIn,Q0 ht]
  ·rename_i ba oa bb ob
   simp only[VR]at rx ry;obtain⟨L,hL,rfl⟩:=rx;obtain⟨L',hL',rfl⟩:=ry
   unfold cW8 at h
   split at h
   ·rename_i n hs
    by_cases e:ba=bb
    ·subst e
     rw[hL]at hL';simp only[b9]at hL';subst hL'
     simp at h;subst h
     have:(({block:=L.blk,off:=L.off+oa}:Addr)=={block:=L.blk,off:=L.off+ob})=decide (oa=ob):=by
      rw[v7];simp
     simp only[Op.equalIn,Sem.run_bind,Q0 ht,Result.andThen_ok,R2 hs]
     simp only[sameAddr,beq_self_eq_true,if_true,this,ne_eq,Nat.succ_ne_zero,not_false_eq_true,Sem.run_pure]
     congr 1
     rw[v7];simp
    ·rw[bq6 e]at h;simp at h
   ·cases h
  ·cases h
 ·
  rename_i ms ht
  split at h
  ·simp only[VR]at rx ry;subst rx;subst ry
   simp only[b9]at h;subst h
   simp[Op.equalIn,Q0 ht]
  ·simp only[VR]at rx ry;subst rx;obtain⟨z,rfl,_⟩:=ry
   simp only[b9]at h;subst h
   simp[Op.equalIn,Q0 ht]
  ·simp only[VR]at rx ry;subst ry;obtain⟨z,rfl,_⟩:=rx
   simp only[b9]at h;subst h
   simp[Op.equalIn,Q0 ht]
  ·rename_i tx vx ty vy
   simp only[VR]at rx ry;obtain⟨zx,rfl,px⟩:=rx;obtain⟨zy,rfl,py⟩:=ry
   by_cases e:tx=ty
   ·subst e
    simp only[Nat.beq_eq_true_eq,Nat.beq_refl,cond_true]at h
    split at h
    ·rename_i i hi
     cases hc:i.comparable with
     |false=>rw[hc]at h;simp at h
     |true=>
      rw[hc]at h;simp only[cond_true]at h
      simp[Op.equalIn,Q0 ht,typeInfo,hi,hc,hih _ _ _ _ _ _ h px py]
    ·cases h
   ·rw[bq6 e]at h;simp at h;subst h
    simp[Op.equalIn,Q0 ht,e]
  ·cases h
 ·
  rename_i el ht
  split at h
  ·simp only[VR]at rx;subst rx
   obtain⟨x,n,c,rfl,rfl⟩:=aK5 h ry
   simp[Op.equalIn,Q0 ht]
  ·simp only[VR]at ry;subst ry
   obtain⟨x,n,c,rfl,rfl⟩:=aK5 h rx
   cases x<;>simp[Op.equalIn,Q0 ht]
  ·cases h
 ·
  rename_i k0 e0 ht
  split at h
  ·simp only[VR]at rx;subst rx
   obtain⟨x,rfl,rfl⟩:=aK6 h ry
   simp[Op.equalIn,Q0 ht]
  ·simp only[VR]at ry;subst ry
   obtain⟨x,rfl,rfl⟩:=aK6 h rx
   cases x<;>simp[Op.equalIn,Q0 ht]
  ·cases h
 ·
  rename_i ht
  split at h
  ·simp only[VR]at rx;subst rx
   rcases aK7 h ry with⟨rfl,rfl⟩|⟨⟨f,x,y,rfl⟩,rfl⟩<;>(simp only[Op.equalIn,Sem.run_bind,Q0 ht,Result.andThen_ok];rfl)
  ·simp only[VR]at ry;subst ry
   rcases aK7 h rx with⟨rfl,rfl⟩|⟨⟨f,x,y,rfl⟩,rfl⟩<;>(simp only[Op.equalIn,Sem.run_bind,Q0 ht,Result.andThen_ok];rfl)
  ·cases h
 ·
  rename_i fields ht
  split at h
  ·rename_i xs ys
   simp only[VR]at rx ry;obtain⟨vx,rfl,px⟩:=rx;obtain⟨vy,rfl,py⟩:=ry
   cases hs:P.stoodInHeld t with
   |true=>rw[hs]at h;simp at h
   |false=>
    rw[hs]at h;simp only[cond_false]at h
    have hf:=ar0 hih px py fields.toList r h w
    simp only[Op.equalIn,Sem.run_bind,Q0 ht,Result.andThen_ok,run_program,hs,k7,if_false]
    rw[←Array.forIn_toList,hf]
    cases r<;>simp
  ·cases h
 ·
  rename_i len el ht
  split at h
  ·rename_i xs ys
   simp only[VR]at rx ry;obtain⟨vx,rfl,px⟩:=rx;obtain⟨vy,rfl,py⟩:=ry
   split at h
   ·cases h
   ·rename_i n hn
    have hf:=aW7 hih px py len 0 r h w
    simp only[Op.equalIn,Sem.run_bind,Q0 ht,Result.andThen_ok,R2 hn]
    rw[Std.Legacy.Range.forIn_eq_forIn_range']
    simp only[Std.Legacy.Range.size,Nat.sub_zero,Nat.add_sub_cancel,Nat.div_one]
    rw[hf]
    cases r<;>simp
  ·cases h
 ·cases h
theorem aK8: ∀(n:Nat) {t:TypeId} {a b:AV} {x y:Value} {r:Bool},eqE P n t a b=some r→VR β ω a x→VR β ω b y→ ∀w,(Op.equalIn n t x y).run P w= .ok r w
 |0,t,a,b,x,y,r,h,_,_,w=>by cases h
 |n+1,t,a,b,x,y,r,h,rx,ry,w=>bZ6 (ih:=eqE P n) (d:=n) (fun t a b x y r h rx ry w=>aK8 n h rx ry w) h rx ry w
end Go.Ev
