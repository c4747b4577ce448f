import Derived.Test.YtbfbcanipfnfeaaE3
import Derived.ChangeKeysEq
import Derived.Laws.StructEq
set_option linter.unusedVariables false
set_option linter.unusedSimpArgs false
namespace Go.Ev
open Go
variable{P:Program}{β:Bij}{ω:Opq}{K:Nat→Prop}{w0 w:World}{h:Heap}
theorem af5{t:TypeId}{s:Nat}(e:a90 P t=some s): ∃i,P.info? t=some i∧i.size=s:=by
 simpa[a90]using e
theorem O2{t:TypeId}{s:Nat}(e:a90 P t=some s)(w:World):(sizeOf t).run P w= .ok s w:=by
 obtain⟨i,hi,rfl⟩:=af5 e
 simp[sizeOf,typeInfo,hi]
theorem M9{t:TypeId}{d:TypeDesc}(e:P.underlying t=some d)(w:World):(underlying t).run P w= .ok d w:=run_underlying e w
theorem ac7{t:TypeId}{b:Bool}(e:cQ4 P t=some b)(w:World):(isAgg t).run P w= .ok b w:=by
 simp only[cQ4,j4]at e
 obtain⟨d,hd,rfl⟩:=e
 simp only[isAgg,Sem.run_bind,M9 hd,Result.andThen_ok]
 cases d<;>rfl
theorem Y4{t:TypeId}{z:AV}(e:V5 P t=some z): ∃v,bi4 v=some z∧ ∀w,(zeroValue t).run P w= .ok v w:=by
 simp only[V5,j6]at e
 obtain⟨v,⟨i,hi,hz⟩,hv⟩:=e
 exact⟨v,hv,fun w=>by simp[zeroValue,typeInfo,hi,hz]⟩
theorem a69(a b:Int):aF5 a b=decide (a<b):=by
 cases a<;>cases b<;>simp only[aF5]<;>rw[m9]<;>simp<;>omega
theorem a09(a b:Int):b76 a b=(a==b):=by
 cases a<;>cases b<;>simp only[b76]<;>rw[m9]<;>simp<;>omega
theorem aq8(k:IntKind)(m:Nat)(h:m<cc4 k):k.wrap (m:Int)=m:=by
 cases k<;>simp only[cc4]at h<;>simp only[IntKind.wrap,IntKind.bits,IntKind.signed]<;>simp<;>omega
theorem W7(k:IntKind)(n:Int):al3 k n=k.wrap n:=by
 cases n with
 |ofNat m=>
  simp only[al3]
  by_cases h:m<cc4 k
  ·rw[a40 h];exact(aq8 k m h).symm
  ·rw[a89 h];rfl
 |negSucc m=>rfl
theorem X5{i:Int}{n:Nat}(h:a51 i=some n):i=(n:Int):=by
 cases i with
 |ofNat m=>simp[a51]at h;subst h;rfl
 |negSucc m=>simp[a51]at h
theorem aC6{op:BinOp}{k:IntKind}{x y:Int}{a:AV}(t:TypeId)(h:aS0 op k x y=some a)(hs:op≠ .shl∧op≠ .shr):
 ∃v,VR β ω a v∧ ∀w,(binOp op t (.int k x) (.int k y)).run P w= .ok v w:=by
 cases op<;>simp only[aS0,a8,reduceCtorEq]at h
 all_goals first
  |(exact absurd rfl hs.1)
  |(exact absurd rfl hs.2)
  |skip
 case quo=>
  by_cases hy:y=0
  ·subst hy;simp[b76]at h
  ·have:b76 y 0=false:=by rw[a09];simpa using hy
   rw[this]at h;simp only[cond_false,a8]at h;subst h
   exact⟨_,rfl,fun w=>by simp[binOp,Op.intDiv,hy,W7]⟩
 case rem=>
  by_cases hy:y=0
  ·subst hy;simp[b76]at h
  ·have:b76 y 0=false:=by rw[a09];simpa using hy
   rw[this]at h;simp only[cond_false,a8]at h;subst h
   exact⟨_,rfl,fun w=>by simp[binOp,Op.intDiv,hy]⟩
 all_goals (subst h;refine⟨_,rfl,fun w=> ?_⟩)
 all_goals simp[binOp,Op.intArith,Op.intBits,Op.intCmp,W7,a09,a69]
 all_goals (rw[m9];simp)
theorem ba0{op:BinOp}{k k':IntKind}{x y:Int}{a:AV}(h:aT6 op k x y=some a):
 ∃v,VR β ω a v∧ ∀w,(Op.shift op k x k' y).run P w= .ok v w:=by
 unfold aT6 at h
 split at h
 ·cases h
 ·rename_i n hn
  have hy:=X5 hn
  subst hy
  have h0: ¬((n:Int)<0):=by omega
  cases op<;>simp only[reduceCtorEq]at h
  ·simp only[a8]at h;subst h
   exact⟨_,rfl,fun w=>by simp[Op.shift,h0,W7]⟩
  ·simp only[a8]at h;subst h
   refine⟨_,rfl,fun w=> ?_⟩
   simp only[Op.shift,h0,if_false,Int.toNat_natCast]
   cases x with
   |ofNat m=>
    have e:((2:Int)^min n k.bits)=((2^min n k.bits:Nat):Int):=by simp
    have e2:(Int.ofNat m).fdiv (2^min n k.bits)=Int.ofNat (m/2^min n k.bits):=by
     rw[e,J1 _ (Int.natCast_nonneg _)];rfl
    simp only[e2,Sem.run_pure]
   |negSucc m=>rfl
theorem ac8: ∀(x y:List UInt8),cw0 x y=(x==y)
 | [],[]=>rfl
 | [],_::_=>rfl
 |_::_,[]=>rfl
 |a::x,b::y=>by
  show(bif Nat.beq a.toNat b.toNat then cw0 x y else false)=_
  by_cases e:a=b
  ·subst e;rw[show Nat.beq a.toNat a.toNat=true by simp,cond_true,ac8 x y];simp
  ·have:Nat.beq a.toNat b.toNat=false:=by
    cases h:Nat.beq a.toNat b.toNat with
    |false=>rfl
    |true=>exact absurd (UInt8.toNat_inj.1 (by simpa using h)) e
   rw[this,cond_false];simp[e]
theorem cr4: ∀(x y:List UInt8),ltB x y=Op.bytesLess x y
 | [],[]=>rfl
 | [],_::_=>rfl
 |_::_,[]=>rfl
 |a::x,b::y=>by
  show(bif Nat.blt a.toNat b.toNat then true else bif Nat.beq a.toNat b.toNat then ltB x y else false)=(a<b||(a==b&&Op.bytesLess x y))
  rw[cr4 x y]
  by_cases h1:a<b
  ·rw[a40 (UInt8.lt_iff_toNat_lt.1 h1)];simp[h1]
  ·rw[a89 (fun hh=>h1 (UInt8.lt_iff_toNat_lt.2 hh))]
   by_cases e:a=b
   ·subst e;simp
   ·have:Nat.beq a.toNat b.toNat=false:=by
     cases h:Nat.beq a.toNat b.toNat with
     |false=>rfl
     |true=>exact absurd (UInt8.toNat_inj.1 (by simpa using h)) e
    rw[this];simp[h1,e]
theorem aw3: ∀(x y:List UInt8),(Op.bytesLess x y||(x==y))= !Op.bytesLess y x
 | [],[]=>rfl
 | [],_::_=>rfl
 |_::_,[]=>rfl
 |a::x,b::y=>by
  have ih:=aw3 x y
  simp only[Op.bytesLess]
  rcases D6 a.toNat b.toNat with h|h|h
  ·have h1:a<b:=UInt8.lt_iff_toNat_lt.2 h
   have h2: ¬b<a:=fun hh=>by have:=UInt8.lt_iff_toNat_lt.1 hh;omega
   have h3:b≠a:=fun e=>by subst e;omega
   simp[h1,h2,h3]
  ·have e:a=b:=UInt8.toNat_inj.1 h
   subst e
   have h1: ¬a<a:=fun hh=>by have:=UInt8.lt_iff_toNat_lt.1 hh;omega
   simp[h1]at ih⊢
   exact ih
  ·have h1:b<a:=UInt8.lt_iff_toNat_lt.2 h
   have h2: ¬a<b:=fun hh=>by have:=UInt8.lt_iff_toNat_lt.1 hh;omega
   have h3:a≠b:=fun e=>by subst e;omega
   simp[h1,h2,h3]
theorem b03{op:BinOp}{x y:List UInt8}{a:AV}(t:TypeId)(h:bF9 op x y=some a):
 ∃v,VR β ω a v∧ ∀w,(binOp op t (.string ⟨x.toArray⟩) (.string ⟨y.toArray⟩)).run P w= .ok v w:=by
 have hlt:=aw3 x y
 have hlt':=aw3 y x
 cases op<;>simp only[bF9,a8,reduceCtorEq]at h
 case add=>
  by_cases hl:x.length+y.length<aT7
  ·rw[a40 hl]at h;simp only[cond_true,a8]at h;subst h
   refine⟨_,rfl,fun w=> ?_⟩
   have h1:(ByteArray.mk x.toArray).size=x.length:=by simp[ByteArray.size]
   have h2:(ByteArray.mk y.toArray).size=y.length:=by simp[ByteArray.size]
   have hn: ¬(((x.length+y.length:Nat):Int)>IntKind.i64.max):=by
    simp only[aT7]at hl
    simp[IntKind.max,IntKind.signed,IntKind.bits];omega
   simp only[binOp,Op.stringOp,h1,h2,if_neg hn,Sem.run_pure]
   congr 2
  ·rw[a89 hl]at h;simp at h
 all_goals (subst h;refine⟨_,rfl,fun w=> ?_⟩)
 all_goals simp only[binOp,Op.stringOp,ByteArray.toList_mk,Sem.run_pure,ac8,cr4]
 all_goals (try simp only[hlt,Bool.not_not])
theorem ac9{t:TypeId}{cs:List AV}{xs:Array Value}{off:Nat}{a:AV}(h:ae8 P t cs off=some a)(r:VRs β ω cs xs.toList):
 ∃v,VR β ω a v∧ ∀w,(part t xs off).run P w= .ok v w:=by
 unfold ae8 at h
 split at h
 ·rename_i n h1 h2
  by_cases hl:off+n≤cs.length
  ·rw[N1.2 hl]at h;simp only[cond_true,a8]at h;subst h
   refine⟨.agg (xs.extract off (off+n)),⟨_,rfl,?_⟩,fun w=> ?_⟩
   ·have:=(r.drop off).take n
    simpa[List.take_drop,y6]using this
   ·simp[part,ac7 h1,O2 h2]
  ·rw[show Nat.ble (off+n) cs.length=false by
    cases e:Nat.ble (off+n) cs.length with
    |false=>rfl
    |true=>exact absurd (N1.1 e) hl]at h;simp at h
 ·rename_i n h1 h2
  obtain⟨y,hy,hr⟩:=r.get off a h
  refine⟨y,hr,fun w=> ?_⟩
  have hy':xs[off]? =some y:=by simpa using hy
  simp[part,ac7 h1,hy']
 ·cases h
theorem bl0{a b:Nat}(h: ¬a=b):Nat.beq a b=false:=by
 cases e:Nat.beq a b with
 |false=>rfl
 |true=>exact absurd (M8.1 e) h
theorem aH0{a:AV}{b:Bool}{v:Value}(h:b77 a=some b)(r:VR β ω a v): ∃x n c,v= .slice x n c∧b=x.isNone:=by
 cases a<;>simp only[b77,a8,reduceCtorEq]at h<;>simp only[VR]at r<;>subst h
 ·subst r;exact⟨_,_,_,rfl,rfl⟩
 ·obtain⟨L,_,rfl⟩:=r;exact⟨_,_,_,rfl,rfl⟩
 ·obtain⟨L,c,_,_,rfl⟩:=r;exact⟨_,_,_,rfl,rfl⟩
 ·obtain⟨L,a,c,_,rfl,_⟩:=r;exact⟨_,_,_,rfl,rfl⟩
 ·obtain⟨a,rfl⟩:=r;exact⟨_,_,_,rfl,rfl⟩
theorem aH1{a:AV}{b:Bool}{v:Value}(h:bt7 a=some b)(r:VR β ω a v): ∃x,v= .map x∧b=x.isNone:=by
 cases a<;>simp only[bt7,a8,reduceCtorEq]at h<;>simp only[VR]at r<;>subst h
 ·subst r;exact⟨_,rfl,rfl⟩
 ·obtain⟨L,_,rfl⟩:=r;exact⟨_,rfl,rfl⟩
theorem aH2{a:AV}{b:Bool}{v:Value}(h:bt8 a=some b)(r:VR β ω a v):(v= .nilFunc∧b=true)∨(∃f x y,v= .func f x y)∧b=false:=by
 cases a<;>simp only[bt8,a8,reduceCtorEq]at h<;>simp only[VR]at r<;>subst h
 ·exact .inl ⟨r,rfl⟩
 ·obtain⟨_,x,y,rfl,_⟩:=r;exact .inr ⟨⟨_,_,_,rfl⟩,rfl⟩
 ·obtain⟨L,_,rfl⟩:=r;exact .inr ⟨⟨_,_,_,rfl⟩,rfl⟩
theorem af6(x y:List UInt8):((ByteArray.mk x.toArray)==(ByteArray.mk y.toArray))=(x==y):=by
 rw[beq_toListBytes,ByteArray.toList_mk,ByteArray.toList_mk]
theorem an7{ih:TypeId→AV→AV→Option Bool}{d:Nat}
 (hih: ∀t a b x y r,ih t a b=some r→VR β ω a x→VR β ω b y→ ∀w,(Op.equalIn d t x y).run P w= .ok r w)
 {xs ys:List AV} {vx vy:Array Value} (rx:VRs β ω xs vx.toList) (ry:VRs β ω ys vy.toList):
 ∀(fs:List Field) (r:Bool),a91 P ih xs ys fs=some r→ ∀w,
  (forIn (m:=Sem) fs ((none,()):Option Bool×Unit) fun f _=>(do
   if f.name≠ "_" then do
    let a ←part f.type vx f.offset
    let b ←part f.type vy f.offset
    let c ←Op.equalIn d f.type a b
    if(!c)=true then pure (.done (some false,()))else pure (.yield (none,()))
   else pure (.yield (none,())))).run P w= .ok (if r then(none,())else(some false,())) w
 | [],r,h,w=>by
   simp only[a91,a8]at h;subst h;simp
 |f::fs,r,h,w=>by
  simp only[a91]at h
  by_cases hn:f.name= "_"
  ·have hb:(f.name== "_")=true:=by simpa using hn
   rw[hb]at h;simp only[cond_true]at h
   have:=an7 hih rx ry fs r h w
   simp only[C4,hn,ne_eq,not_true_eq_false,if_false,pure_bind]
   exact this
  ·have hb:(f.name== "_")=false:=by simpa using hn
   rw[hb]at h;simp only[cond_false]at h
   split at h
   ·rename_i a b ha hb'
    obtain⟨va,ra,hva⟩:=ac9 ha rx
    obtain⟨vb,rb,hvb⟩:=ac9 hb' ry
    split at h
    ·rename_i he
     have:=an7 hih rx ry fs r h w
     simp only[C4,hn,ne_eq,not_false_eq_true,if_true,Sem.run_bind,hva,hvb,Result.andThen_ok,hih _ _ _ _ _ _ he ra rb,o8,i4,if_false,Sem.run_pure]
     exact this
    ·rename_i x he
     cases r with
     |true=>exact absurd h he
     |false=>
      have he':=h
      simp only[C4,hn,ne_eq,not_false_eq_true,if_true,Sem.run_bind,hva,hvb,Result.andThen_ok,hih _ _ _ _ _ _ he' ra rb,A2,Sem.run_pure]
      simp
   ·cases h
theorem aU4{ih:TypeId→AV→AV→Option Bool}{d e n:Nat}
 (hih: ∀t a b x y r,ih t a b=some r→VR β ω a x→VR β ω b y→ ∀w,(Op.equalIn d t x y).run P w= .ok r w)
 {xs ys:List AV} {vx vy:Array Value} (rx:VRs β ω xs vx.toList) (ry:VRs β ω ys vy.toList):
 ∀(k i:Nat) (r:Bool),aF6 P ih e n xs ys k i=some r→ ∀w,
  (forIn (m:=Sem) (List.range' i k) ((none,()):Option Bool×Unit) fun i _=>(do
   let a ←part e vx (i*n)
   let b ←part e vy (i*n)
   let c ←Op.equalIn d e a b
   if(!c)=true then pure (.done (some false,()))else pure (.yield (none,())))).run P w= .ok (if r then(none,())else(some false,())) w
 |0,i,r,h,w=>by
  simp only[aF6,a8]at h;subst h;simp
 |k+1,i,r,h,w=>by
  simp only[aF6]at h
  split at h
  ·rename_i a b ha hb'
   obtain⟨va,ra,hva⟩:=ac9 ha rx
   obtain⟨vb,rb,hvb⟩:=ac9 hb' ry
   split at h
   ·rename_i he
    have:=aU4 hih rx ry k (i+1) r h w
    simp only[B1,C4,Sem.run_bind,hva,hvb,Result.andThen_ok,hih _ _ _ _ _ _ he ra rb,o8,i4,if_false,Sem.run_pure]
    exact this
   ·rename_i x he
    cases r with
    |true=>exact absurd h he
    |false=>
     have he':=h
     simp only[B1,C4,Sem.run_bind,hva,hvb,Result.andThen_ok,hih _ _ _ _ _ _ he' ra rb,A2,Sem.run_pure]
     simp
  ·cases h
set_option maxHeartbeats 4000000 in
theorem bU3{ih:TypeId→AV→AV→Option Bool}{d:Nat}
 (hih: ∀t a b x y r,ih t a b=some r→VR β ω a x→VR β ω b y→ ∀w,(Op.equalIn d t x y).run P w= .ok r w)
 {t:TypeId} {a b:AV} {x y:Value} {r:Bool} (h:a44 P ih t a b=some r) (rx:VR β ω a x) (ry:VR β ω b y) (w:World):
 (Op.equalIn (d+1) t x y).run P w= .ok r w:=by
 unfold a44 at h
 split at h
 ·
  rename_i ht
  split at h
  ·simp only[VR]at rx ry;subst rx;subst ry
   simp only[a8]at h;subst h
   simp[Op.equalIn,M9 ht]
  ·cases h
 ·
  rename_i k0 ht
  split at h
  ·rename_i k m k' m'
   simp only[VR]at rx ry;subst rx;subst ry
   split at h
   ·rename_i e;subst e
    simp only[a8]at h;subst h
    simp[Op.equalIn,M9 ht,a09]
   ·cases h
  ·rename_i k m k' m'
   simp only[VR]at rx ry;subst rx;subst ry
   split at h
   ·rename_i e;subst e
    cases hc:SX.beq m m' with
    |true=>
     rw[hc]at h
     obtain rfl:=SX.beq_eq _ _ hc
     simp at h;subst h
     simp[Op.equalIn,M9 ht]
    |false=>rw[hc]at h;simp at h
   ·cases h
  ·cases h
 ·
  rename_i ht
  split at h
  ·simp only[VR]at rx ry;subst rx;subst ry
   simp only[a8]at h;subst h
   rename_i s s'
   simp[Op.equalIn,M9 ht,ac8,af6]
  ·rename_i m m'
   simp only[VR]at rx ry;subst rx;subst ry
   cases hc:SX.beq m m' with
   |true=>
    rw[hc]at h
    obtain rfl:=SX.beq_eq _ _ hc
    simp at h;subst h
    simp[Op.equalIn,M9 ht,af6]
   |false=>rw[hc]at h;simp at h
  ·cases h
 ·
  rename_i el ht
  split at h
  ·simp only[VR]at rx ry;subst rx;subst ry
   simp only[a8]at h;subst h
   simp[Op.equalIn,M9 ht]
  ·simp only[VR]at rx ry;subst rx;obtain⟨L,_,rfl⟩:=ry
   simp only[a8]at h;subst h
   simp[Op.equalIn,M9 ht]
  ·simp only[VR]at rx ry;subst ry;obtain⟨L,_,rfl⟩:=rx
   simp only[a8]at h;subst h
   simp[Op.equalIn,M9 ht]
  ·rename_i ba oa bb ob
   simp only[VR]at rx ry;obtain⟨L,hL,rfl⟩:=rx;obtain⟨L',hL',rfl⟩:=ry
   unfold cQ5 at h
   split at h
   ·rename_i n hs
    by_cases e:ba=bb
    ·subst e
     rw[hL]at hL';simp only[a8]at hL';subst hL'
     simp at h;subst h
     have:(({block:=L.blk,off:=L.off+oa}:Addr)=={block:=L.blk,off:=L.off+ob})=decide (oa=ob):=by
      rw[m9];simp
     simp only[Op.equalIn,Sem.run_bind,M9 ht,Result.andThen_ok,O2 hs]
     simp only[sameAddr,beq_self_eq_true,if_true,this,ne_eq,Nat.succ_ne_zero,not_false_eq_true,Sem.run_pure]
     congr 1
     rw[m9];simp
    ·rw[bl0 e]at h;simp at h
   ·cases h
  ·cases h
 ·
  rename_i ms ht
  split at h
  ·simp only[VR]at rx ry;subst rx;subst ry
   simp only[a8]at h;subst h
   simp[Op.equalIn,M9 ht]
  ·simp only[VR]at rx ry;subst rx;obtain⟨z,rfl,_⟩:=ry
   simp only[a8]at h;subst h
   simp[Op.equalIn,M9 ht]
  ·simp only[VR]at rx ry;subst ry;obtain⟨z,rfl,_⟩:=rx
   simp only[a8]at h;subst h
   simp[Op.equalIn,M9 ht]
  ·rename_i tx vx ty vy
   simp only[VR]at rx ry;obtain⟨zx,rfl,px⟩:=rx;obtain⟨zy,rfl,py⟩:=ry
   by_cases e:tx=ty
   ·subst e
    simp only[Nat.beq_eq_true_eq,Nat.beq_refl,cond_true]at h
    split at h
    ·rename_i i hi
     cases hc:i.comparable with
     |false=>rw[hc]at h;simp at h
     |true=>
      rw[hc]at h;simp only[cond_true]at h
      simp[Op.equalIn,M9 ht,typeInfo,hi,hc,hih _ _ _ _ _ _ h px py]
    ·cases h
   ·rw[bl0 e]at h;simp at h;subst h
    simp[Op.equalIn,M9 ht,e]
  ·cases h
 ·
  rename_i el ht
  split at h
  ·simp only[VR]at rx;subst rx
   obtain⟨x,n,c,rfl,rfl⟩:=aH0 h ry
   simp[Op.equalIn,M9 ht]
  ·simp only[VR]at ry;subst ry
   obtain⟨x,n,c,rfl,rfl⟩:=aH0 h rx
   cases x<;>simp[Op.equalIn,M9 ht]
  ·cases h
 ·
  rename_i k0 e0 ht
  split at h
  ·simp only[VR]at rx;subst rx
   obtain⟨x,rfl,rfl⟩:=aH1 h ry
   simp[Op.equalIn,M9 ht]
  ·simp only[VR]at ry;subst ry
   obtain⟨x,rfl,rfl⟩:=aH1 h rx
   cases x<;>simp[Op.equalIn,M9 ht]
  ·cases h
 ·
  rename_i ht
  split at h
  ·simp only[VR]at rx;subst rx
   rcases aH2 h ry with⟨rfl,rfl⟩|⟨⟨f,x,y,rfl⟩,rfl⟩<;>(simp only[Op.equalIn,Sem.run_bind,M9 ht,Result.andThen_ok];rfl)
  ·simp only[VR]at ry;subst ry
   rcases aH2 h rx with⟨rfl,rfl⟩|⟨⟨f,x,y,rfl⟩,rfl⟩<;>(simp only[Op.equalIn,Sem.run_bind,M9 ht,Result.andThen_ok];rfl)
  ·cases h
 ·
  rename_i fields ht
  split at h
  ·rename_i xs ys
   simp only[VR]at rx ry;obtain⟨vx,rfl,px⟩:=rx;obtain⟨vy,rfl,py⟩:=ry
   cases hs:P.stoodInHeld t with
   |true=>rw[hs]at h;simp at h
   |false=>
    rw[hs]at h;simp only[cond_false]at h
    have hf:=an7 hih px py fields.toList r h w
    simp only[Op.equalIn,Sem.run_bind,M9 ht,Result.andThen_ok,run_program,hs,i4,if_false]
    rw[←Array.forIn_toList,hf]
    cases r<;>simp
  ·cases h
 ·
  rename_i len el ht
  split at h
  ·rename_i xs ys
   simp only[VR]at rx ry;obtain⟨vx,rfl,px⟩:=rx;obtain⟨vy,rfl,py⟩:=ry
   split at h
   ·cases h
   ·rename_i n hn
    have hf:=aU4 hih px py len 0 r h w
    simp only[Op.equalIn,Sem.run_bind,M9 ht,Result.andThen_ok,O2 hn]
    rw[Std.Legacy.Range.forIn_eq_forIn_range']
    simp only[Std.Legacy.Range.size,Nat.sub_zero,J2,Nat.div_one]
    rw[hf]
    cases r<;>simp
  ·cases h
 ·cases h
theorem aH3: ∀(n:Nat) {t:TypeId} {a b:AV} {x y:Value} {r:Bool},eqE P n t a b=some r→VR β ω a x→VR β ω b y→ ∀w,(Op.equalIn n t x y).run P w= .ok r w
 |0,t,a,b,x,y,r,h,_,_,w=>by cases h
 |n+1,t,a,b,x,y,r,h,rx,ry,w=>bU3 (ih:=eqE P n) (d:=n) (fun t a b x y r h rx ry w=>aH3 n h rx ry w) h rx ry w
end Go.Ev
