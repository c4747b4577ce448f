import Derived.Test.YtcmjiepodnicoaaGreatE1
import Derived.ChangeKeysEq
import Derived.Laws.StructEq
import Derived.Deep.Upon
import Derived.Lib.AppendZerosOnto
set_option linter.unusedSimpArgs false
set_option linter.unusedVariables false
namespace Go.Ev
open Go
variable{a:AV}{t:TypeId}{b:Bool}{op:BinOp}
variable{P:Program}{O:cq}{I:Opq}{K:Nat->Prop}{w0 w:World}{h:Heap}
theorem ce4{s:Nat}(e:fe P t=some s): ∃i,P.info? t=some i/\i.size=s:=by
 simp_all[fe]
theorem fB{s:Nat}(e:fe P t=some s)(w:World):(sizeOf t).run P w= .ok s w:=by
 obtain⟨i,hi,rfl⟩:=ce4 e;simp[sizeOf,typeInfo,hi]
theorem Z3{d:TypeDesc}(e:P.underlying t=some d)(w:World):(underlying t).run P w= .ok d w:=run_underlying e w
theorem BH(e:LM P t=some b)(w:World):(isAgg t).run P w= .ok b w:=by
 simp[LM,o9]at e;obtain⟨d,hd,rfl⟩:=e;simp[isAgg,Sem.run_bind,Z3 hd,Result.andThen_ok];cases d<;>rfl
theorem Ck{z:AV}(e:jk P t=some z): ∃v,xG v=some z/\ ∀w,(zeroValue t).run P w= .ok v w:=by
 simp[jk,o8]at e;obtain⟨v,⟨i,hi,hz⟩,hv⟩:=e;simp_all[zeroValue,typeInfo]
theorem vR(a b:Int):lO a b=decide (a<b):=by
 cases a<;>cases b<;>simp only[lO]<;>rw[C0]<;>simp<;>omega
theorem ui(a b:Int):oc a b=(a==b):=by
 cases a<;>cases b<;>simp only[oc]<;>rw[C0]<;>simp<;>omega
theorem cD6(k:IntKind)(m:Nat)(h:m<LH k):k.wrap (m:Int)=m:=by
 cases k<;>simp only[LH]at h<;>simp only[IntKind.wrap,IntKind.bits,IntKind.signed]<;>simp<;>omega
theorem wu(k:IntKind)(n:Int):oG k n=k.wrap n:=by
 cases n with
 |ofNat m=>
  grind[oG,LH,jm,cD6,jv]
 |negSucc m=>rfl
theorem Bb{i:Int}{n:Nat}(h:vN i=some n):i=(n:Int):=by
 cases i with
 |ofNat m=>grind[vN]
 |negSucc m=>trivial
theorem LL{k:IntKind}{x y:Int}(t:TypeId)(h:uj op k x y=some a)(hs:op≠ .shl/\op≠ .shr):
 ∃v,VR O I a v/\ ∀w,(binOp op t (.int k x) (.int k y)).run P w= .ok v w:=by
 cases op<;>simp only[uj,j0,reduceCtorEq]at h;all_goals first
  |(exact absurd rfl hs.1)
  |(exact absurd rfl hs.2)
  |skip
 case quo=>
  by_cases hy:y=0
  .simp_all[oc]
  .have:oc y 0=false:=by grind
   rw[this]at h;simp at h;subst h;exact⟨_,rfl,λw=>by simp[binOp,Op.intDiv,hy,wu]⟩
 case rem=>
  by_cases hy:y=0
  .simp_all[oc]
  .have:oc y 0=false:=by grind
   rw[this]at h;simp at h;subst h;exact⟨_,rfl,λw=>by simp[binOp,Op.intDiv,hy]⟩
 all_goals (subst h;refine⟨_,rfl,λw=> ?_⟩)
 all_goals simp[binOp,Op.intArith,Op.intBits,Op.intCmp,wu,ui,vR]
 all_goals grind
theorem bp9{k k':IntKind}{x y:Int}(h:JO op k x y=some a):
 ∃v,VR O I a v/\ ∀w,(Op.shift op k x k' y).run P w= .ok v w:=by
 unfold JO at h;split at h
 .cases h
 .rename_i n hn;have hy:=Bb hn;subst hy;have h0: ¬((n:Int)<0):=by omega
  cases op<;>simp only[reduceCtorEq]at h
  .simp at h;subst h;exact⟨_,rfl,λw=>by simp[Op.shift,h0,wu]⟩
  .simp at h;subst h;refine⟨_,rfl,λw=> ?_⟩;simp[Op.shift,h0,if_false,Int.toNat_natCast];cases x with
   |ofNat m=>
    grind[min,Int.fdiv_eq_ediv_of_nonneg,Int.natCast_nonneg,Sem.run_pure]
   |negSucc m=>rfl
theorem uQ: ∀(x y:List UInt8),Bu x y=(x==y)
 | [],[]=>rfl
 | [],_::_=>rfl
 |_::_,[]=>rfl
 |a::x,b::y=>by
  show(bif Nat.beq a.toNat b.toNat then Bu x y else false)=_;by_cases e:a=b
  .subst e;rw[show Nat.beq a.toNat a.toNat=true by simp,cond_true,uQ x y];simp
  .have:Nat.beq a.toNat b.toNat=false:=by
    cases h:Nat.beq a.toNat b.toNat with
    |false=>rfl
    |true=>exact absurd (UInt8.toNat_inj.1 (by simpa using h)) e
   grind
theorem cS7: ∀(x y:List UInt8),ij x y=Op.bytesLess x y
 | [],[]=>rfl
 | [],_::_=>rfl
 |_::_,[]=>rfl
 |a::x,b::y=>by
  show(bif Nat.blt a.toNat b.toNat then true else bif Nat.beq a.toNat b.toNat then ij x y else false)=(a<b||(a==b&&Op.bytesLess x y));rw[cS7 x y];by_cases h1:a<b
  .grind[jm,UInt8.lt_iff_toNat_lt]
  .rw[jv (λhh=>h1 (UInt8.lt_iff_toNat_lt.2 hh))];by_cases e:a=b
   .subst e;simp
   .have:Nat.beq a.toNat b.toNat=false:=by
     cases h:Nat.beq a.toNat b.toNat with
     |false=>rfl
     |true=>exact absurd (UInt8.toNat_inj.1 (by simpa using h)) e
    grind
theorem Zg: ∀(x y:List UInt8),(Op.bytesLess x y||(x==y))= !Op.bytesLess y x
 | [],[]=>rfl
 | [],_::_=>rfl
 |_::_,[]=>rfl
 |a::x,b::y=>by
  have ih:=Zg x y;grind[Op.bytesLess,Nat.lt_trichotomy,UInt8.lt_iff_toNat_lt,UInt8.toNat_inj]
theorem VU{x y:List UInt8}(t:TypeId)(h:Od op x y=some a):
 ∃v,VR O I a v/\ ∀w,(binOp op t (.string ⟨x.toArray⟩) (.string ⟨y.toArray⟩)).run P w= .ok v w:=by
 have hlt:=Zg x y;cases op<;>simp only[Od,j0,reduceCtorEq]at h;case add=>
  by_cases hl:x.length+y.length<SI
  .rw[jm hl]at h;simp at h;subst h;refine⟨_,rfl,λw=> ?_⟩;have h1:(ByteArray.mk x.toArray).size=x.length:=by trivial
   have h2:(ByteArray.mk y.toArray).size=y.length:=by trivial
   have hn: ¬(((x.length+y.length:Nat):Int)>IntKind.i64.max):=by
    simp[SI]at hl;simp[IntKind.max,IntKind.signed,IntKind.bits];omega
   simp only[binOp,Op.stringOp,h1,h2,b9 hn,Sem.run_pure];congr 2
  grind[jv]
 all_goals (subst h;refine⟨_,rfl,λw=> ?_⟩)
 all_goals simp only[binOp,Op.stringOp,ByteArray.toList_mk,Sem.run_pure,uQ,cS7]
 all_goals grind
theorem Cw{cs:List AV}{xs:Array Value}{off:Nat}(h:kQ P t cs off=some a)(r:ct O I cs xs.toList):
 ∃v,VR O I a v/\ ∀w,(part t xs off).run P w= .ok v w:=by
 unfold kQ at h;split at h
 .rename_i n h1 h2;by_cases hl:off+n<=cs.length
  .rw[cW.2 hl]at h;simp at h;subst h;refine⟨.agg (xs.extract off (off+n)),⟨_,rfl,?_⟩,λw=> ?_⟩
   .have:=(r.drop off).take n;simpa[List.take_drop,E8]using this
   .simp[part,BH h1,fB h2]
  grind[Nat.ble,absurd,cW]
 .obtain⟨y,hy,hr⟩:=r.get off a h;simp_all[part,BH]
 .cases h
theorem Bp{a b:Nat}(h: ¬a=b):Nat.beq a b=false:=by
 grind[Nat.beq,absurd,Z4]
theorem RT{v:Value}(h:FV a=some b)(r:VR O I a v): ∃x n c,v= .slice x n c/\b=x.isNone:=by
 cases a<;>simp only[FV,j0,reduceCtorEq]at h<;>simp only[VR]at r<;>subst h
 .subst r;exact⟨_,_,_,rfl,rfl⟩
 .obtain⟨L,_,rfl⟩:=r;exact⟨_,_,_,rfl,rfl⟩
 .obtain⟨L,c,_,_,rfl⟩:=r;exact⟨_,_,_,rfl,rfl⟩
 .obtain⟨L,a,c,_,rfl,_⟩:=r;exact⟨_,_,_,rfl,rfl⟩
 grind
theorem Ol{v:Value}(h:NM a=some b)(r:VR O I a v): ∃x,v= .map x/\b=x.isNone:=by
 cases a<;>simp only[NM,j0,reduceCtorEq]at h<;>simp only[VR]at r<;>subst h
 .subst r;exact⟨_,rfl,rfl⟩
 grind
theorem Vi{v:Value}(h:NQ a=some b)(r:VR O I a v):(v= .nilFunc/\b=true)\/(∃f x y,v= .func f x y)/\b=false:=by
 cases a<;>simp only[NQ,j0,reduceCtorEq]at h<;>simp only[VR]at r<;>subst h
 .exact .inl ⟨r,rfl⟩
 .obtain⟨_,x,y,rfl,_⟩:=r;exact .inr ⟨⟨_,_,_,rfl⟩,rfl⟩
 grind
theorem EC(x y:List UInt8):((ByteArray.mk x.toArray)==(ByteArray.mk y.toArray))=(x==y):=by
 grind[beq_toListBytes,ByteArray.toList_mk]
theorem Ru{ih:TypeId->AV->AV->Option Bool}{d:Nat}
 (hih: ∀t a b x y r,ih t a b=some r->VR O I a x->VR O I b y-> ∀w,(Op.equalIn d t x y).run P w= .ok r w)
 {xs ys:List AV} {vx vy:Array Value} (rx:ct O I xs vx.toList) (ry:ct O I ys vy.toList):
 ∀(fs:List Field) (r:Bool),ws P ih xs ys fs=some r-> ∀w,
  (forIn (m:=Sem) fs ((none,()):Option Bool×Unit) λf _=>(do
   if f.name≠ "_" then do
    let a <-part f.type vx f.offset
    let b <-part f.type vy f.offset
    let c <-Op.equalIn d f.type a b
    if(!c)=true then pure (.done (some false,()))else pure (.yield (none,()))
   else pure (.yield (none,())))).run P w= .ok (if r then(none,())else(some false,())) w
 | [],r,h,w=>by
   simp_all[ws,j0]
 |f::fs,r,h,w=>by
  simp[ws]at h;by_cases hn:f.name= "_"
  .have hb:(f.name== "_")=true:=by simpa using hn
   rw[hb]at h;have:=Ru hih rx ry fs r h w;grind
  .have hb:(f.name== "_")=false:=by grind
   rw[hb]at h;split at h
   .rename_i a b ha hb';obtain⟨va,ra,hva⟩:=Cw ha rx;obtain⟨vb,rb,hvb⟩:=Cw hb' ry;split at h
    .rename_i he;have:=Ru hih rx ry fs r h w;simp only[J4,hn,ne_eq,not_false_eq_true,if_true,Sem.run_bind,hva,hvb,Result.andThen_ok,hih _ _ _ _ _ _ he ra rb,E9,s6,if_false,Sem.run_pure];exact this
    .cases r with
     |true=>grind
     |false=>
      have he':=h;simp only[J4,hn,ne_eq,not_false_eq_true,if_true,Sem.run_bind,hva,hvb,Result.andThen_ok,hih _ _ _ _ _ _ he' ra rb,P8,Sem.run_pure];simp
   .cases h
theorem Yh{ih:TypeId->AV->AV->Option Bool}{d e n:Nat}
 (hih: ∀t a b x y r,ih t a b=some r->VR O I a x->VR O I b y-> ∀w,(Op.equalIn d t x y).run P w= .ok r w)
 {xs ys:List AV} {vx vy:Array Value} (rx:ct O I xs vx.toList) (ry:ct O I ys vy.toList):
 ∀(k i:Nat) (r:Bool),Gn P ih e n xs ys k i=some r-> ∀w,
  (forIn (m:=Sem) (List.range' i k) ((none,()):Option Bool×Unit) λi _=>(do
   let a <-part e vx (i*n)
   let b <-part e vy (i*n)
   let c <-Op.equalIn d e a b
   if(!c)=true then pure (.done (some false,()))else pure (.yield (none,())))).run P w= .ok (if r then(none,())else(some false,())) w
 |0,i,r,h,w=>by
  simp_all[Gn,j0]
 |k+1,i,r,h,w=>by
  simp[Gn]at h;split at h
  .rename_i a b ha hb';obtain⟨va,ra,hva⟩:=Cw ha rx;obtain⟨vb,rb,hvb⟩:=Cw hb' ry;split at h
   .rename_i he;have:=Yh hih rx ry k (i+1) r h w;simp only[G0,J4,Sem.run_bind,hva,hvb,Result.andThen_ok,hih _ _ _ _ _ _ he ra rb,E9,s6,if_false,Sem.run_pure];exact this
   .cases r with
    |true=>grind
    |false=>
     have he':=h;simp only[G0,J4,Sem.run_bind,hva,hvb,Result.andThen_ok,hih _ _ _ _ _ _ he' ra rb,P8,Sem.run_pure];simp
  .cases h
set_option maxHeartbeats 4000000 in
theorem ce5{ih:TypeId->AV->AV->Option Bool}{d:Nat}
 (hih: ∀t a b x y r,ih t a b=some r->VR O I a x->VR O I b y-> ∀w,(Op.equalIn d t x y).run P w= .ok r w)
  {b:AV} {x y:Value} {r:Bool} (h:my P ih t a b=some r) (rx:VR O I a x) (ry:VR O I b y) (w:World):
 (Op.equalIn (d+1) t x y).run P w= .ok r w:=by
 unfold my at h;split at h
 .
  rename_i ht;split at h
  .simp only[VR]at rx ry;subst rx;subst ry;simp only[j0]at h;subst h;simp[Op.equalIn,Z3 ht]
  .cases h
 .
  rename_i k0 ht;split at h
  .rename_i k m k' m';simp only[VR]at rx ry;subst rx;subst ry;split at h
   .rename_i e;subst e;simp only[j0]at h;subst h;simp[Op.equalIn,Z3 ht,ui]
   .cases h
  .rename_i k m k' m';simp only[VR]at rx ry;subst rx;subst ry;split at h
   .rename_i e;subst e;cases hc:SX.beq m m' with
    |true=>
     rw[hc]at h;obtain rfl:=SX.beq_eq _ _ hc;simp at h;subst h;simp[Op.equalIn,Z3 ht]
    |false=>grind
   .cases h
  .cases h
 .
  rename_i ht;split at h
  .simp only[VR]at rx ry;subst rx;subst ry;simp only[j0]at h;subst h;rename_i s s';simp[Op.equalIn,Z3 ht,uQ,EC]
  .rename_i m m';simp only[VR]at rx ry;subst rx;subst ry;cases hc:SX.beq m m' with
   |true=>
    rw[hc]at h;obtain rfl:=SX.beq_eq _ _ hc;simp at h;subst h;simp[Op.equalIn,Z3 ht,EC]
   |false=>grind
  .cases h
 .
  rename_i el ht;split at h
  .simp only[VR]at rx ry;subst rx;subst ry;simp only[j0]at h;subst h;simp[Op.equalIn,Z3 ht]
  .simp only[VR]at rx ry;subst rx;obtain⟨L,_,rfl⟩:=ry;simp only[j0]at h;subst h;simp[Op.equalIn,Z3 ht]
  .simp only[VR]at rx ry;subst ry;obtain⟨L,_,rfl⟩:=rx;simp_all[j0,Op.equalIn,Z3]
  .rename_i ba oa bb ob;simp only[VR]at rx ry;obtain⟨L,hL,rfl⟩:=rx;obtain⟨L',hL',rfl⟩:=ry;unfold dp6 at h;split at h
   .rename_i n hs;by_cases e:ba=bb
    .subst e;rw[hL]at hL';simp only[j0]at hL';subst hL';simp at h;subst h;have:(({block:=L.blk,off:=L.off+oa}:Addr)=={block:=L.blk,off:=L.off+ob})=decide (oa=ob):=by
      rw[C0];simp
     simp only[Op.equalIn,Sem.run_bind,Z3 ht,Result.andThen_ok,fB hs];simp only[sameAddr,beq_self_eq_true,if_true,this,ne_eq,M7,not_false_eq_true,Sem.run_pure];congr 1;rw[C0];simp
    grind[Bp]
   .cases h
  .cases h
 .
  rename_i ms ht;split at h
  .simp only[VR]at rx ry;subst rx;subst ry;simp only[j0]at h;subst h;simp[Op.equalIn,Z3 ht]
  .simp only[VR]at rx ry;subst rx;obtain⟨z,rfl,_⟩:=ry;simp only[j0]at h;subst h;simp[Op.equalIn,Z3 ht]
  .simp only[VR]at rx ry;subst ry;obtain⟨z,rfl,_⟩:=rx;simp_all[j0,Op.equalIn,Z3]
  .rename_i tx vx ty vy;simp only[VR]at rx ry;obtain⟨zx,rfl,px⟩:=rx;obtain⟨zy,rfl,py⟩:=ry;by_cases e:tx=ty
   .subst e;simp only[Nat.beq_eq_true_eq,Nat.beq_refl,cond_true]at h;split at h
    .rename_i i hi;cases hc:i.comparable with
     |false=>grind
     |true=>
      rw[hc]at h;simp only[cond_true]at h;simp[Op.equalIn,Z3 ht,typeInfo,hi,hc,hih _ _ _ _ _ _ h px py]
    .cases h
   .rw[Bp e]at h;simp at h;subst h;simp[Op.equalIn,Z3 ht,e]
  .cases h
 .
  rename_i el ht;split at h
  .simp only[VR]at rx;subst rx;obtain⟨x,n,c,rfl,rfl⟩:=RT h ry;simp[Op.equalIn,Z3 ht]
  .simp only[VR]at ry;subst ry;obtain⟨x,n,c,rfl,rfl⟩:=RT h rx;cases x<;>simp[Op.equalIn,Z3 ht]
  .cases h
 .
  rename_i k0 e0 ht;split at h
  .simp only[VR]at rx;subst rx;obtain⟨x,rfl,rfl⟩:=Ol h ry;simp[Op.equalIn,Z3 ht]
  .simp only[VR]at ry;subst ry;obtain⟨x,rfl,rfl⟩:=Ol h rx;cases x<;>simp[Op.equalIn,Z3 ht]
  .cases h
 .
  rename_i ht;split at h
  .simp only[VR]at rx;subst rx;rcases Vi h ry with⟨rfl,rfl⟩|⟨⟨f,x,y,rfl⟩,rfl⟩<;>(simp only[Op.equalIn,Sem.run_bind,Z3 ht,Result.andThen_ok];rfl)
  .simp only[VR]at ry;subst ry;rcases Vi h rx with⟨rfl,rfl⟩|⟨⟨f,x,y,rfl⟩,rfl⟩<;>(simp only[Op.equalIn,Sem.run_bind,Z3 ht,Result.andThen_ok];rfl)
  .cases h
 .
  rename_i fields ht;split at h
  .rename_i xs ys;simp only[VR]at rx ry;obtain⟨vx,rfl,px⟩:=rx;obtain⟨vy,rfl,py⟩:=ry;cases hs:P.stoodInHeld t with
   |true=>grind
   |false=>
    rw[hs]at h;simp only[cond_false]at h;have hf:=Ru hih px py fields.toList r h w;simp only[Op.equalIn,Sem.run_bind,Z3 ht,Result.andThen_ok,run_program,hs,s6,if_false];rw[<-Array.forIn_toList,hf];cases r<;>simp
  .cases h
 .
  rename_i len el ht;split at h
  .rename_i xs ys;simp only[VR]at rx ry;obtain⟨vx,rfl,px⟩:=rx;obtain⟨vy,rfl,py⟩:=ry;split at h
   .cases h
   .rename_i n hn;have hf:=Yh hih px py len 0 r h w;simp only[Op.equalIn,Sem.run_bind,Z3 ht,Result.andThen_ok,fB hn];rw[Std.Legacy.Range.forIn_eq_forIn_range'];simp only[Std.Legacy.Range.size,Nat.sub_zero,M8,Nat.div_one];rw[hf];cases r<;>simp
  .cases h
 .cases h
theorem xK: ∀(n:Nat) {t:TypeId} {a b:AV} {x y:Value} {r:Bool},kG P n t a b=some r->VR O I a x->VR O I b y-> ∀w,(Op.equalIn n t x y).run P w= .ok r w
 |0,t,a,b,x,y,r,h,_,_,w=>by cases h
 |n+1,t,a,b,x,y,r,h,rx,ry,w=>ce5 (ih:=kG P n) (d:=n) (λt a b x y r h rx ry w=>xK n h rx ry w) h rx ry w
end Go.Ev
namespace Go.Ev
open Go
variable{a x b:AV}{t:TypeId}{vx vb va:Value}{op:BinOp}
variable{P:Program}{O:cq}{I:Opq}{K:Nat->Prop}{w0 w:World}{h:Heap}
def Ed:Value->Value->Bool
 | .int _ _,.int _ _=>true
 | .float _ _,.float _ _=>true
 | .complex _ _ _,.complex _ _ _=>true
 | .string _,.string _=>true
 |_,_=>false
theorem TQ(t:TypeId)(x y:Value)(hc:Ed x y=false):binOp .eql t x y=(do pure (.bool (<-Op.equal t x y))):=by
 cases x<;>cases y<;>first|rfl|grind[Ed]
theorem OP(t:TypeId)(x y:Value)(hc:Ed x y=false):binOp .neq t x y=(do pure (.bool (!(<-Op.equal t x y)))):=by
 cases x<;>cases y<;>first|rfl|grind[Ed]
theorem XL{n:Nat}{x y:Value}{r:Bool}(h:kG P n t a b=some r)(rx:VR O I a x)(ry:VR O I b y)(ha: ∀k n,a≠ .int k n)(hs: ∀l,a≠ .str l):
 Ed x y=false\/(r=true/\ ∃k n,x= .int k n/\y= .int k n)\/(r=true/\ ∃s,x= .string s/\y= .string s):=by
 cases n with
 |zero=>cases h
 |succ n=>
  have h':my P (kG P n) t a b=some r:=h;unfold my at h';split at h'
  .split at h'
   .subst rx;left;trivial
   .cases h'
  .split at h'
   .exact absurd rfl (ha _ _)
   .rename_i k m k' m';subst rx;subst ry;split at h'
    .rename_i e;subst e;cases hc:SX.beq m m' with
     |true=>rw[hc]at h';obtain rfl:=SX.beq_eq _ _ hc;simp at h';subst h';exact .inr (.inl ⟨rfl,_,_,rfl,rfl⟩)
     |false=>rw[hc]at h';simp at h'
    .cases h'
   .cases h'
  .split at h'
   .exact absurd rfl (hs _)
   .rename_i m m';subst rx;subst ry;cases hc:SX.beq m m' with
    |true=>rw[hc]at h';obtain rfl:=SX.beq_eq _ _ hc;simp at h';subst h';exact .inr (.inr ⟨rfl,_,rfl,rfl⟩)
    |false=>rw[hc]at h';simp at h'
   .cases h'
  .left;split at h'
   .subst rx;rfl
   .subst rx;rfl
   .obtain⟨L,_,rfl⟩:=rx;rfl
   .obtain⟨L,_,rfl⟩:=rx;rfl
   .cases h'
  .left;split at h'
   .subst rx;rfl
   .subst rx;rfl
   .obtain⟨L,rfl,_⟩:=rx;rfl
   .obtain⟨L,rfl,_⟩:=rx;rfl
   .cases h'
  .left;split at h'
   .subst rx;rfl
   .obtain⟨_,_,_,rfl,_⟩:=RT h' rx;rfl
   .cases h'
  .left;split at h'
   .subst rx;rfl
   .obtain⟨_,rfl,_⟩:=Ol h' rx;rfl
   .cases h'
  .left;split at h'
   .subst rx;rfl
   .rcases Vi h' rx with⟨rfl,_⟩|⟨⟨_,_,_,rfl⟩,_⟩<;>rfl
   .cases h'
  .left;split at h'
   .obtain⟨L,rfl,_⟩:=rx;rfl
   .cases h'
  .left;split at h'
   .obtain⟨L,rfl,_⟩:=rx;rfl
   .cases h'
  grind
theorem Uk{y:AV}{vy:Value}(h:vT P op t x y=some a)(rx:VR O I x vx)(ry:VR O I y vy)(ha: ∀k n,x≠ .int k n)(hs: ∀l,x≠ .str l):
 ∃v,VR O I a v/\ ∀w,(binOp op t vx vy).run P w= .ok v w:=by
 cases op<;>simp only[vT,reduceCtorEq]at h
 .simp only[o9]at h;obtain⟨r,hr,rfl⟩:=h;refine⟨_,rfl,λw=> ?_⟩;rcases XL hr rx ry ha hs with hc|⟨rfl,k,n,rfl,rfl⟩|⟨rfl,s,rfl,rfl⟩
  .rw[TQ _ _ _ hc];simp[Op.equal,Op.maxDepth,xK 10000 hr rx ry]
  .simp[binOp,Op.intCmp]
  .simp[binOp,Op.stringOp]
 .simp only[o9]at h;obtain⟨r,hr,rfl⟩:=h;refine⟨_,rfl,λw=> ?_⟩;rcases XL hr rx ry ha hs with hc|⟨rfl,k,n,rfl,rfl⟩|⟨rfl,s,rfl,rfl⟩
  .rw[OP _ _ _ hc];simp[Op.equal,Op.maxDepth,xK 10000 hr rx ry]
  .simp[binOp,Op.intCmp]
  .simp[binOp,Op.stringOp]
theorem d45{k:IntKind}{m:Int}{n:Nat}{v:Value}(t:TypeId)(h:Vc op k m n=some a)(rv:VR O I (.atl n) v):
 ∃u,VR O I a u/\ ∀w,(binOp op t (.int k m) v).run P w= .ok u w:=by
 unfold Vc at h;split at h
 .cases hc:lO (.ofNat n) m with
  |true=>grind
  |false=>
   obtain⟨q,rfl,hq⟩:=rv;have h1:lO q m=false:=by
    rw[vR,decide_eq_false_iff_not]at hc⊢;have:(Int.ofNat n:Int)=(n:Int):=rfl;omega
   simp_all[uj,bool,LL]
 .cases h
theorem d46{y:AV}{vy:Value}(h:UN P op t x y=some a)(rx:VR O I x vx)(ry:VR O I y vy):
 ∃v,VR O I a v/\ ∀w,(binOp op t vx vy).run P w= .ok v w:=by
 unfold UN at h;split at h
 .split at h
  .rename_i k' m';subst rx;subst ry;unfold e08 at h;split at h
   .obtain⟨v,r,hv⟩:=bp9 (P:=P) (O:=O) (I:=I) (k':=k') h;exact⟨v,r,λw=>by rw[<-hv w];rfl⟩
   .obtain⟨v,r,hv⟩:=bp9 (P:=P) (O:=O) (I:=I) (k':=k') h;exact⟨v,r,λw=>by rw[<-hv w];rfl⟩
   .rename_i n1 n2;split at h
    .rename_i e;subst e;exact LL t h ⟨n1,n2⟩
    .cases h
  .subst rx;exact d45 t h ry
  .cases h
 .split at h
  .subst rx;subst ry;exact VU t h
  .cases h
 grind[Uk]
theorem ZB(h:VR O I b .nilIface):b= .nili\/(∃n,b= .opq n)\/b= .any:=by
 cases b<;>simp[VR]at h⊢
theorem dt7{cs:Array Value}(h:VR O I b (.agg cs)):(∃l,b= .agg l)\/(∃n,b= .opq n)\/b= .any:=by
 cases b<;>simp[VR]at h⊢
def YB(va vb:Value):Bool:=
 match va,vb with
 | .nilIface,.nilIface=>false
 | .agg _,.agg _=>false
 |_,_=>true
theorem Xq(op:BinOp)(t:TypeId)(x y:Operand)(h:YB va vb=true)(w:World):(eqGuard op t x y va vb).run P w= .ok () w:=by
 cases op<;>first
  |rfl
  |(cases va<;>cases vb<;>first|rfl|grind[YB])
theorem bC8(op:BinOp)(t:TypeId)(x y:Operand){ca:Array Value}(h:P.eqGuardType P.depth t=false)(w:World):(eqGuard op t x y (.agg ca) vb).run P w= .ok () w:=by
 unfold eqGuard;cases op<;>first
  |rfl
  |(cases vb<;>first|rfl|simp[h])
theorem aF5(op:BinOp)(t:TypeId)(x y:Operand)(h:wB x=true\/wB y=true)(w:World):(eqGuard op t x y .nilIface vb).run P w= .ok () w:=by
 unfold eqGuard;rcases h with h|h
 .cases x<;>simp[wB]at h;cases op<;>first
   |rfl
   |(cases vb<;>first|rfl|simp)
 .cases y<;>simp[wB]at h;cases op<;>first
   |rfl
   |(cases vb<;>first|rfl|simp_all)
theorem bq1{x y:Operand}(h:RE P t x y a b=true)(ra:VR O I a va)(rb:VR O I b vb)(w:World):
 (eqGuard op t x y va vb).run P w= .ok () w:=by
 unfold RE at h;split at h
 .subst ra;by_cases hx:wB x=true
  .grind[aF5]
  .by_cases hy:wB y=true
   .grind[aF5]
   .refine Xq _ _ _ _ ?_ w;cases vb<;>first|rfl|skip
    grind[ZB]
 .cases h
 .simp[VR]at ra;grind[bC8]
 .cases h
 .rename_i n1 n4 n2 n3;refine Xq _ _ _ _ ?_ w;cases va<;>first|rfl|skip
  .rcases ZB ra with rfl|⟨n,rfl⟩|rfl
   .trivial
   .exact absurd rfl (n3 _)
   trivial
  grind[dt7]
theorem b98{x y:Operand}(h:xW P op t x y a b=true)(ra:VR O I a va)(rb:VR O I b vb)(w:World):
 (eqGuard op t x y va vb).run P w= .ok () w:=by
 unfold xW at h;split at h
 .grind[bq1]
 .grind[bq1]
 .rename_i n1 n2;cases op<;>first|trivial|trivial|rfl
theorem cS8{op:UnOp}(h:Ln op x=some a)(rx:VR O I x vx): ∃v,VR O I a v/\ ∀w,(Op.unary op vx).run P w= .ok v w:=by
 unfold Ln at h;split at h
 .subst rx;simp at h;subst h;exact⟨_,rfl,λw=>by simp[Op.unary,Op.intArith,wu]⟩
 .subst rx;simp[uj,j0]at h;subst h;exact⟨_,rfl,λw=>by simp[Op.unary,Op.intBits,wu]⟩
 .subst rx;simp at h;subst h;exact⟨_,rfl,λw=>by rfl⟩
 .cases h
theorem jb(b o n:Nat):(⟨b,o,none⟩:Addr).add n=⟨b,o+n,none⟩:=by
 grind[Addr.add]
theorem be0{f:Nat}(h:LC P t x f=some a)(rx:VR O I x vx): ∃v,VR O I a v/\ ∀w,(Instr.fieldAt t vx f).run P w= .ok v w:=by
 unfold LC at h;split at h
 .rename_i fields b o ht;obtain⟨L,hL,rfl⟩:=rx;split at h
  .rename_i fd hf;split at h
   .rename_i n hs;simp at h;subst h;refine⟨_,⟨L,hL,rfl⟩,λw=> ?_⟩;simp[Instr.fieldAt,Sem.run_bind,Z3 ht,Result.andThen_ok,hf,Instr.sureAddr,Sem.run_pure,fieldPlace,fB hs];simp[jb,y5]
   .cases h
  .cases h
 .cases h
theorem be1{i:AV}{vi:Value}(h:Ou P t x i=some a)(rx:VR O I x vx)(ri:VR O I i vi): ∃v,VR O I a v/\ ∀w,(Instr.indexAt t vx vi).run P w= .ok v w:=by
 unfold Ou at h;split at h
 .subst ri;split at h
  .rename_i m len elem b o hn ht;have hn':=Bb hn;subst hn';obtain⟨L,hL,rfl⟩:=rx;split at h
   .rename_i s hs;by_cases hl:m<len
    .rw[jm hl]at h;simp at h;subst h;refine⟨_,⟨L,hL,rfl⟩,λw=> ?_⟩;have hc:(0:Int)<=(m:Int)/\(m:Int)<(len:Int):=by omega
     simp only[Instr.indexAt,Sem.run_bind,asIntOf,Sem.run_pure,Z3 ht,Result.andThen_ok,Instr.sureAddr,e8 hc,fB hs];simp[jb,y5]
    grind[jv]
   .cases h
  .rename_i m elem b o len cap hn ht;have hn':=Bb hn;subst hn';obtain⟨L,hL,rfl⟩:=rx;split at h
   .rename_i s hs;by_cases hl:m<len
    .rw[jm hl]at h;simp at h;subst h;refine⟨_,⟨L,hL,rfl⟩,λw=> ?_⟩;have hc:(0:Int)<=(m:Int)/\(m:Int)<(len:Int):=by omega
     simp only[Instr.indexAt,Sem.run_bind,asIntOf,Sem.run_pure,Z3 ht,Result.andThen_ok,Instr.sureAddr,e8 hc,fB hs];simp[jb,y5]
    grind[jv]
   .cases h
  .rename_i m elem b o len sz hn ht;have hn':=Bb hn;subst hn';obtain⟨L,cap,hL,_,rfl⟩:=rx;split at h
   .rename_i s hs;by_cases hl:m<len
    .rw[jm hl]at h;simp at h;subst h;refine⟨_,⟨L,hL,rfl⟩,λw=> ?_⟩;have hc:(0:Int)<=(m:Int)/\(m:Int)<(len:Int):=by omega
     simp only[Instr.indexAt,Sem.run_bind,asIntOf,Sem.run_pure,Z3 ht,Result.andThen_ok,Instr.sureAddr,e8 hc,fB hs];simp[jb,y5]
    grind[jv]
   .cases h
  .cases h
 .cases h
theorem ce7{i:AV}{vi:Value}(h:OA P t x i=some a)(rx:VR O I x vx)(ri:VR O I i vi): ∃v,VR O I a v/\ ∀w,(Instr.index t vx vi).run P w= .ok v w:=by
 unfold OA at h;split at h
 .rename_i k n;simp only[VR]at ri;subst ri;split at h
  .rename_i m len elem cs hn ht;have hn':=Bb hn;subst hn';simp only[VR]at rx;obtain⟨xs,rfl,px⟩:=rx;split at h
   .rename_i s hs;by_cases hl:m<len
    .rw[jm hl]at h;simp only[cond_true]at h;obtain⟨v,rv,hv⟩:=Cw h px;refine⟨v,rv,λw=> ?_⟩;have hc:(0:Int)<=(m:Int)/\(m:Int)<(len:Int):=by omega
     simp only[Instr.index,Sem.run_bind,asIntOf,Sem.run_pure,Z3 ht,Result.andThen_ok,e8 hc,fB hs,Int.toNat_natCast,hv]
    grind[jv]
   .cases h
  .rename_i m s hn ht;have hn':=Bb hn;subst hn';simp only[VR]at rx;subst rx;simp only[o9]at h;obtain⟨b,hb,rfl⟩:=h;refine⟨_,rfl,λw=> ?_⟩;have hg:(ByteArray.mk s.toArray)[m]? =some b:=by
    have hlt:m<s.length:=by
     rcases j9 m s.length with h'|h'
     .exact h'
     .rw[t7 h']at hb;cases hb
    rw[ByteArray.getElem?_lt' _ _ (by trivial)];rw[l7 hlt]at hb;trivial
   have hc:(0:Int)<=(m:Int):=by omega
   simp only[Instr.index,Sem.run_bind,asIntOf,Sem.run_pure,Z3 ht,Result.andThen_ok,e8 hc,Int.toNat_natCast,hg]
  .cases h
 .cases h
theorem bC9{i:Nat}(h:MD i x=some a)(rx:VR O I x vx): ∃v,VR O I a v/\ ∀w,(Instr.extract vx i).run P w= .ok v w:=by
 unfold MD at h;split at h
 .obtain⟨xs,rfl,px⟩:=rx;obtain⟨y,hy,ry⟩:=px.get i a h;simp_all[Instr.extract]
 .cases h
end Go.Ev
namespace Go.Ev
open Go
variable{cs:List AV}
variable{P:Program}{O:cq}{I:Opq}{K:Nat->Prop}{w0 w:World}{h:Heap}
def OR(O:cq)(I:Opq):Option AV->Option Value->Prop
 |none,v=>v=none
 |some a,v=> ∃x,v=some x/\VR O I a x
theorem Mm{x:AV}{d n:Nat}(e:ft (some x) d=some n): ∃k,x= .int k (n:Int):=by
 cases x<;>simp only[ft,reduceCtorEq]at e;rename_i k i;exact⟨k,by rw[Bb e]⟩
theorem ce8(x:AV)(d d':Nat):ft (some x) d=ft (some x) d':=by cases x<;>rfl
theorem yq{v:Value}{k:IntKind}{n y:Nat}(code:BoundsCode)(hv:v= .int k (n:Int))(hy:n<=y)(w:World):(Instr.sliceBound v y code).run P w= .ok n w:=by
 simp_all[Instr.sliceBound,Sem.run_bind,asIntOf,Sem.run_pure,Result.andThen_ok,e8,Int.toNat_natCast]
theorem oz{lo hi mx:Option AV}{vl vh vm:Option Value}{len cap l e m:Nat}(isS:Bool)
 (rl:OR O I lo vl) (rh:OR O I hi vh) (rm:OR O I mx vm) (hl:ft lo 0=some l) (he:ft hi len=some e) (hm:ft mx cap=some m)
 (h1:l<=e) (h2:e<=m) (h3:m<=cap) (hx:hi=none->mx=none) (w:World):
 (Instr.sliceBounds isS len cap vl vh vm).run P w= .ok (l,e,m) w:=by
 have hlow:(vl=none/\l=0)\/ ∃v,vl=some v/\ ∀code,(Instr.sliceBound v e code).run P w= .ok l w:=by
  cases lo with
  |none=>subst rl;simp[ft]at hl;subst hl;exact .inl ⟨rfl,rfl⟩
  |some x=>
   obtain⟨v,rfl,rv⟩:=rl;obtain⟨k,rfl⟩:=Mm hl;exact .inr ⟨v,rfl,λcode=>yq code rv h1 w⟩
 cases mx with
 |none=>
  subst rm;simp[ft]at hm;subst hm;cases hi with
  |none=>
   subst rh;simp[ft]at he;subst he;rcases hlow with⟨rfl,rfl⟩|⟨v,rfl,hv⟩
   .rfl
   .simp[Instr.sliceBounds,Sem.run_bind,Sem.run_pure,Result.andThen_ok,hv]
  |some x=>
   obtain⟨v,rfl,rv⟩:=rh;obtain⟨k,rfl⟩:=Mm he;rcases hlow with⟨rfl,rfl⟩|⟨v',rfl,hv⟩
   .simp[Instr.sliceBounds,Sem.run_bind,Sem.run_pure,Result.andThen_ok,yq _ rv h2]
   .simp[Instr.sliceBounds,Sem.run_bind,Sem.run_pure,Result.andThen_ok,yq _ rv h2,hv]
 |some y=>
  obtain⟨u,rfl,ru⟩:=rm;obtain⟨k',rfl⟩:=Mm hm;cases hi with
  |none=>exact absurd (hx rfl) (by simp)
  |some x=>
   obtain⟨v,rfl,rv⟩:=rh;obtain⟨k,rfl⟩:=Mm he;rcases hlow with⟨rfl,rfl⟩|⟨v',rfl,hv⟩
   .simp[Instr.sliceBounds,Sem.run_bind,Sem.run_pure,Result.andThen_ok,yq _ ru h3,yq _ rv h2]
   .simp[Instr.sliceBounds,Sem.run_bind,Sem.run_pure,Result.andThen_ok,yq _ ru h3,yq _ rv h2,hv]
theorem Z1{a b:Bool}(h:(a&&b)=true):a=true/\b=true:=by grind
theorem Z2{α:Type}{c:Bool}{x:Option α}{a:α}(h:(bif c then x else none)=some a):c=true/\x=some a:=by
 grind
theorem HR.cells{b:Nat}{e fz:Nat}{L:Loc}(r:HR O I K w0 h w)(hg:h.get b=some (.cells e fz cs))(hb:O b=some L):
 ∃C lo hi vs,w.heap[L.blk]? =some (.cells C e (lo,hi))/\L.off+L.ext<=C.size/\cs.length<=L.ext/\cs.all AV.oneA=true/\ct O I cs vs/\
  (∀i,i<cs.length->C[L.off+i]? =vs[i]?)/\(∀i,fz<=i->i<L.ext-> ¬(lo<=L.off+i/\L.off+i<hi)):=
 let ⟨C,lo,hi,vs,h1,h2,h3,h4,h5,h6,h7,_⟩:=r.blk b _ L hg hb
 ⟨C,lo,hi,vs,h1,h2,h3,h4,h5,h6,h7⟩
theorem HR.head{b:Nat}{e fz:Nat}{L:Loc}(r:HR O I K w0 h w)(hg:h.get b=some (.cells e fz cs))(hb:O b=some L):I.fix e=true->L.off=0:=
 let ⟨_,_,_,_,_,_,_,_,_,_,_,h8⟩:=r.blk b _ L hg hb
 h8
set_option maxHeartbeats 1000000 in
theorem ce9{t:TypeId}{x a:AV}{lo hi mx:Option AV}{vx:Value}{vl vh vm:Option Value}(r:HR O I K w0 h w)(e:Vt P t x lo hi mx h=some a)(hx:(hi.isNone&&mx.isSome)=false)
 (rx:VR O I x vx) (rl:OR O I lo vl) (rh:OR O I hi vh) (rm:OR O I mx vm): ∃v,VR O I a v/\ ∀w,(Instr.sliceAt t vx vl vh vm).run P w= .ok v w:=by
 have hx':hi=none->mx=none:=by simp_all
 unfold Vt at e;split at e
 .
  rename_i s ht;split at e
  .rename_i l en hl he;obtain⟨hc,e⟩:=Z2 e;obtain⟨h1,h2⟩:=Z1 hc;rw[cW]at h1 h2;simp at e;subst e;subst rx;subst rm;refine⟨_,rfl,λw=> ?_⟩;have hs:(ByteArray.mk s.toArray).size=s.length:=by rfl
   simp only[Instr.sliceAt,Sem.run_bind,Z3 ht,Result.andThen_ok,Instr.slice,hs,Option.isSome_none,s6,if_false,Sem.run_pure,
    oz (mx:=none) (vm:=none) false rl rh rfl hl he (m:=s.length) rfl h1 h2 (e9 _) (λ_=>rfl),ByteArray.extract_mk]
  .cases e
 .
  rename_i elem ht;split at e
  .rename_i s hl he hm hs;simp at e;subst e;subst rx;refine⟨_,rfl,λw=> ?_⟩;simp[Instr.sliceAt,Sem.run_bind,Z3 ht,Instr.slice,oz (cap:=0) true rl rh rm hl he hm (e9 _) (e9 _) (e9 _) hx',fB hs]
  .cases e
 .
  obtain⟨L,ad,cap,hL,rfl,hor⟩:=rx;split at e
  .rename_i s hl he hs;simp at e;subst e;refine⟨.slice (some ad) 0 cap,⟨L,ad,cap,hL,rfl,hor⟩,λw=> ?_⟩;have hb:=oz (P:=P) (mx:=none) (vm:=none) (cap:=cap) true rl rh rfl hl he (m:=cap) rfl (e9 _) (s7 _) (e9 _) (λ_=>rfl) w;simp_all[OR,Instr.sliceAt,Sem.run_bind,Z3,Instr.slice,fB,Addr.add]
  .rename_i mm s hl he hs;split at e
   .rename_i hm;simp at e;subst e;refine⟨.slice (some ad) 0 0,⟨ad,rfl⟩,λw=> ?_⟩;have hb:=oz (P:=P) (cap:=cap) (m:=0) true rl rh rm hl he ((ce8 _ _ _).trans hm) (e9 _) (e9 _) (s7 _) hx' w;simp_all[Instr.sliceAt,Sem.run_bind,Z3,Instr.slice,fB]
   .cases e
  .cases e
 .
  rename_i elem ht;obtain⟨ad,rfl⟩:=rx;split at e
  .rename_i s hl he hm hs;simp at e;subst e;refine⟨.slice (some ad) 0 0,⟨ad,rfl⟩,λw=> ?_⟩;simp[Instr.sliceAt,Sem.run_bind,Z3 ht,Instr.slice,oz (cap:=0) true rl rh rm hl he hm (e9 _) (e9 _) (e9 _) hx',fB hs]
  .cases e
 .
  rename_i elem b o len cap ht;split at e
  .rename_i l en m s hl he hm hs;obtain⟨hc,e⟩:=Z2 e;obtain⟨hc,h3⟩:=Z1 hc;obtain⟨h1,h2⟩:=Z1 hc;rw[cW]at h1 h2 h3;simp at e;subst e;obtain⟨L,hL,rfl⟩:=rx;by_cases hml:m=l
   .subst hml;refine⟨.slice (some ⟨L.blk,L.off+o,none⟩) (en-m) (m-m),⟨L,hL,by simp⟩,λw=> ?_⟩;simp[Instr.sliceAt,Sem.run_bind,Z3 ht,Instr.slice,oz true rl rh rm hl he hm h1 h2 h3 hx',fB hs]
   .refine⟨.slice (some ⟨L.blk,L.off+(o+l*s),none⟩) (en-l) (m-l),⟨L,hL,by grind[Bp]⟩,λw=> ?_⟩;simp[Instr.sliceAt,Sem.run_bind,Z3 ht,Instr.slice,oz true rl rh rm hl he hm h1 h2 h3 hx',fB hs,hml,jb,y5]
  .cases e
 .
  rename_i elem b o len sz ht;split at e
  .rename_i l en s el fz cs hl he hs hg;obtain⟨hc,e⟩:=Z2 e;obtain⟨hc,h4⟩:=Z1 hc;obtain⟨hc,h3⟩:=Z1 hc;obtain⟨h1,h2⟩:=Z1 hc;rw[cW]at h2 h4;rw[fc]at h3;rw[Z4]at h1;subst h1;obtain⟨L,cap,hL,hext,rfl⟩:=rx;obtain⟨C,lo',hi',vs,_,_,hle,_⟩:=r.cells hg hL;have hcap: ∀m,o+m*s<=cs.length->m<=cap:=by
    intro m hm;exact F5 (show m*s<=cap*s by omega) h3
   have hen:en<=cap:=hcap en h4;split at e
   .subst rm;have hb:=oz (P:=P) (mx:=none) (vm:=none) (cap:=cap) true rl rh rfl hl he (m:=cap) rfl h2 hen (e9 _) (λ_=>rfl);have hrun: ∀w,(Instr.sliceAt t (.slice (some ⟨L.blk,L.off+o,none⟩) len cap) vl vh none).run P w= .ok (.slice (if cap=l then some ⟨L.blk,L.off+o,none⟩else some ⟨L.blk,L.off+(o+l*s),none⟩) (en-l) (cap-l)) w:=by
     simp_all[Instr.sliceAt,Sem.run_bind,Z3,Instr.slice,fB,jb,y5]
    have hmul:l*s+(cap-l)*s=cap*s:=by
     rw[<-x8];grind
    by_cases hq:(Nat.blt (o+l*s) cs.length||Nat.beq l 0)=true
    .rw[hq]at e;simp at e;subst e;refine⟨_,⟨L,cap-l,hL,by omega,?_⟩,hrun⟩;by_cases hml:cap=l
     .rcases Bool.or_eq_true_iff.1 hq with hq|hq
      .rw[fc]at hq;subst hml;omega
      .rw[Z4]at hq;subst hq;simp
     grind
    .have hq':(Nat.blt (o+l*s) cs.length||Nat.beq l 0)=false:=(B6 _).mp hq;rw[hq']at e;simp at e;subst e;have hge: ¬(o+l*s<cs.length):=λhh=>hq (by grind[jm])
     have hle2:l*s<=en*s:=A1 s h2;have hen2:en=l:=by
      grind[Nat.eq_of_mul_eq_mul_right]
     subst hen2;by_cases hml:cap=en
     .refine⟨_,⟨L,⟨L.blk,L.off+o,none⟩,cap-en,hL,?_,.inl (by omega)⟩,hrun⟩;grind
     .refine⟨_,⟨L,⟨L.blk,L.off+(o+en*s),none⟩,cap-en,hL,?_,.inr ⟨rfl,by omega⟩⟩,hrun⟩;grind
   .split at e
    .rename_i m hm;obtain⟨hc,e⟩:=Z2 e;obtain⟨h5,h6⟩:=Z1 hc;rw[cW]at h5 h6;simp at e;subst e;have hb:=oz (P:=P) (cap:=cap) (m:=m) true rl rh rm hl he ((ce8 _ _ _).trans hm) h2 h5 (hcap m h6) hx';by_cases hml:m=l
     .subst hml;refine⟨.slice (some ⟨L.blk,L.off+o,none⟩) (en-m) (m-m),⟨L,hL,by simp⟩,λw=> ?_⟩;simp_all[Instr.sliceAt,Sem.run_bind,Z3,Instr.slice,fB]
     .refine⟨.slice (some ⟨L.blk,L.off+(o+l*s),none⟩) (en-l) (m-l),⟨L,hL,by rw[Bp hml];rfl⟩,λw=> ?_⟩;simp_all[Instr.sliceAt,Sem.run_bind,Z3,Instr.slice,fB,jb,y5]
    .cases e
  .cases e
 .
  rename_i n elem b o ht;split at e
  .rename_i l en m s hl he hm hs;obtain⟨hc,e⟩:=Z2 e;obtain⟨hc,h3⟩:=Z1 hc;obtain⟨h1,h2⟩:=Z1 hc;rw[cW]at h1 h2 h3;simp at e;subst e;obtain⟨L,hL,rfl⟩:=rx;by_cases hml:m=l
   .subst hml;refine⟨.slice (some ⟨L.blk,L.off+o,none⟩) (en-m) (m-m),⟨L,hL,by simp⟩,λw=> ?_⟩;simp[Instr.sliceAt,Instr.sureAddr,Sem.run_bind,Z3 ht,oz false rl rh rm hl he hm h1 h2 h3 hx',fB hs]
   .refine⟨.slice (some ⟨L.blk,L.off+(o+l*s),none⟩) (en-l) (m-l),⟨L,hL,by grind[Bp]⟩,λw=> ?_⟩;simp[Instr.sliceAt,Instr.sureAddr,Sem.run_bind,Z3 ht,oz false rl rh rm hl he hm h1 h2 h3 hx',fB hs,hml,jb,y5]
  .cases e
 .cases e
theorem b99{xs:List Value}{vs:List AV}{us:List Value}(o:Nat)(r:ct O I cs xs)(q:ct O I vs us):
 ct O I (kE cs o vs) (xs.take o++us++xs.drop (o+us.length)):=by
 rw[q.length];exact((r.take o).append q).append (r.drop _)
theorem WD{vs:List AV}{o:Nat}(h:o+vs.length<=cs.length):(kE cs o vs).length=cs.length:=by
 grind[kE]
theorem cf0(v:List Value): ∀(j off:Nat) (cells:Array Value),off+j+v.length<=cells.size->
 ((v.zipIdx j).foldl (λcs (x:Value×Nat)=>cs.setIfInBounds (off+x.2) x.1) cells).toList=cells.toList.take (off+j)++v++cells.toList.drop (off+j+v.length):=by
 induction v with
 |nil=>simp_all
 |cons a r ih=>
  intro j off cells h;simp;rw[ih (j+1) off _ (by grind)];have hlt:off+j<cells.toList.length:=by grind
  have hp:off+(j+1)=off+j+1:=by omega
  rw[Array.toList_setIfInBounds,hp];generalize off+j=p at hlt⊢;have hmin:min p cells.toList.length=p:=by omega
  rw[List.set_eq_take_append_cons_drop,e8 hlt,List.take_append,M9];simp only[l5,hmin,P9,Q0];simp[Q1,y5,E8 1]
theorem He{placeA:Nat->Option (Nat×Nat)}{placeV:Nat->Option (Nat×Nat)}(hp: ∀i x,placeA i=some x->placeV i=some x):
 ∀(parts:List (Nat×AV)) (vparts:List (Nat×Value)) (cs cs':List AV) (cells:Array Value),
  zT placeA cs parts=some cs'->ct O I cs cells.toList->(List.map (·.1) parts=List.map (·.1) vparts)->ct O I (parts.map (·.2)) (vparts.map (·.2))->
  ∃cells',Instr.fill placeV cells vparts=some cells'/\ct O I cs' cells'.toList/\cells'.size=cells.size
 | [],vparts,cs,cs',cells,h,r,hm,hv=>by
   cases vparts with
   |nil=>simp[zT,j0]at h;subst h;exact⟨cells,rfl,r,rfl⟩
   |cons a b=>simp at hm
 |(i,v)::rest,vparts,cs,cs',cells,h,r,hm,hv=>by
  cases vparts with
  |nil=>simp at hm
  |cons a b=>
   obtain⟨i',y⟩:=a;simp at hm;obtain⟨rfl,hm⟩:=hm;obtain⟨y',yr,hy,ry,rr⟩:=hv;obtain⟨rfl,rfl⟩:=hy;simp[zT]at h;split at h
   .cases h
   .rename_i off size hpl;obtain⟨hc,h⟩:=Z2 h;obtain⟨h0,hc⟩:=Z1 hc;obtain⟨h1,h2⟩:=Z1 hc;rw[Z4]at h1;rw[cW]at h2;have rc:=VR.cells ry h0;have hl:=rc.length;have hs:=r.length;simp at hl hs;have hfold:=cf0 y.cells.toList 0 off cells (by simp;omega);simp only[Nat.add_zero]at hfold;obtain⟨cells',e1,e2,e3⟩:=He hp rest b (kE cs off v.cells) cs'
     (y.cells.zipIdx.foldl (λcs (c,j)=>cs.setIfInBounds (off+j) c) cells) h
     (by
      have:=b99 off r rc;rw[show(y.cells.zipIdx.foldl (λcs (c,j)=>cs.setIfInBounds (off+j) c) cells).toList=cells.toList.take off++y.cells.toList++cells.toList.drop (off+y.cells.toList.length) by
       rw[<-hfold,<-Array.foldl_toList,Array.toList_zipIdx]]
      exact this) hm rr
    refine⟨cells',?_,e2,?_⟩
    .have hcond: ¬(y.cells.size≠size||decide (off+y.cells.size>cells.size))=true:=by
      simp;omega
     simp only[Instr.fill,hp _ _ hpl];rw[b9 hcond];exact e1
    .rw[e3];have: ∀(l:List (Value×Nat)) (c:Array Value),(l.foldl (λcs (x:Value×Nat)=>cs.setIfInBounds (off+x.2) x.1) c).size=c.size:=by
      intro l;induction l with
      |nil=>intro c;rfl
      |cons a b ih=>simp[ih]
     rw[<-Array.foldl_toList];exact this _ _
theorem aW6{fields:List Field}(hs: ∀f∈fields,(fe P f.type).isSome=true)(w:World):
 (fields.mapM (m:=Sem) λf=>do pure (f.offset,<-sizeOf f.type)).run P w= .ok (fields.map λf=>(f.offset,(fe P f.type).getD 0)) w:=by
 induction fields with
 |nil=>rfl
 |cons f r ih=>
  obtain⟨s,hs'⟩:=Q2.1 (hs f (by simp));simp_all[M5,Sem.run_bind,fB,Result.andThen_ok,Sem.run_pure,l9,Option.getD_some]
theorem cf1{t:TypeId}{parts:List (Nat×AV)}{vparts:Array (Nat×Value)}{a:AV}(e:Qp P t parts=some a)(hm:parts.map (·.1)=vparts.toList.map (·.1))(hv:ct O I (parts.map (·.2)) (vparts.toList.map (·.2))):
 ∃v,VR O I a v/\ ∀w,(Instr.build t vparts).run P w= .ok v w:=by
 unfold Qp at e;split at e
 .rename_i z fields hz ht;obtain⟨zv,hzv,hzr⟩:=Ck hz;simp[o8]at e;obtain⟨cs,hf,e⟩:=e;obtain⟨hall,e⟩:=Z2 e;obtain⟨hall,hnt⟩:=Z1 hall;simp at e;subst e;have hall': ∀f∈fields.toList,(fe P f.type).isSome=true:=by
   intro f hf;have:=Q3.1 hall f (by simpa using hf);trivial
  have hz':ct O I z.cells zv.cells.toList:=VR.cells (vF hzv) hnt;obtain⟨cells',e1,e2,e3⟩:=He (placeV:=λi=>((fields.toList.map λf=>(f.offset,(fe P f.type).getD 0)).toArray)[i]?)
   (λi x hx=>by
    simp[o8,o9]at hx;obtain⟨f,hf,s,hs,rfl⟩:=hx;simp[hf,hs]) parts vparts.toList z.cells cs zv.cells hf hz' hm hv
  refine⟨.agg cells',⟨_,rfl,e2⟩,λw=> ?_⟩;have hmap:(fields.mapM (m:=Sem) λf=>do pure (f.offset,<-sizeOf f.type)).run P w= .ok (fields.toList.map λf=>(f.offset,(fe P f.type).getD 0)).toArray w:=by
   rw[T9];simp only[Sem.run_map,aW6 hall',Result.andThen_ok]
  simp_all[Instr.build,Sem.run_bind,Result.andThen_ok,Z3]
 .rename_i z len elem hz ht;obtain⟨zv,hzv,hzr⟩:=Ck hz;split at e
  .rename_i s hs;obtain⟨hnt,e⟩:=Z2 e;simp at e;obtain⟨cs,hf,rfl⟩:=e;have hz':ct O I z.cells zv.cells.toList:=VR.cells (vF hzv) hnt;obtain⟨cells',e1,e2,e3⟩:=He (placeV:=λi=>some (i*s,s)) (λi x hx=>hx) parts vparts.toList z.cells cs zv.cells hf hz' hm hv;refine⟨.agg cells',⟨_,rfl,e2⟩,λw=> ?_⟩;simp_all[Instr.build,Sem.run_bind,Result.andThen_ok,Z3,fB]
  .cases e
 .cases e
end Go.Ev
namespace Go.Ev
open Go
variable{b o:Nat}{t:TypeId}
variable{P:Program}{O:cq}{I:Opq}{K:Nat->Prop}{w0 w:World}{h h':Heap}
theorem uF{C:Array Value}{e:TypeId}{fr:Nat×Nat}(hb:w.heap[b]? =some (.cells C e fr)):w.cell? ⟨b,o,none⟩=C[o]? :=by
 simp[World.cell?,hb]
theorem BW{C:Array Value}{e:TypeId}{lo hi:Nat}(hb:w.heap[b]? =some (.cells C e (lo,hi)))(hn: ¬(lo<=o/\o<hi)):w.frozen? ⟨b,o,none⟩=false:=by
 grind[World.frozen?,decide,absurd]
theorem JT(b:Nat)(e:TypeId)(fr:Nat×Nat): ∀(us:List Value) (o:Nat) (w:World) (C:Array Value),w.heap[b]? =some (.cells C e fr)->
 ∃C',(w.setCells b o us).heap[b]? =some (.cells C' e fr)/\C'.size=C.size/\ ∀i,i<C.size->C'[i]? =if o<=i/\i<o+us.length then us[i-o]? else C[i]?
 | [],o,w,C,hb=>⟨C,hb,rfl,λi _=>by grind⟩
 |u::us,o,w,C,hb=>by
  have h1:(w.setCell ⟨b,o,none⟩ u).heap[b]? =some (.cells (C.setIfInBounds o u) e fr):=by
   simp[World.setCell,Q4,hb]
  obtain⟨C',h2,h3,h4⟩:=JT b e fr us (o+1) _ _ h1;refine⟨C',h2,by simpa using h3,λi hi=> ?_⟩;grind
theorem Oa(b:Nat): ∀(us:List Value) (o:Nat) (w:World) (i:Nat),i≠b->(w.setCells b o us).heap[i]? =w.heap[i]?
 | [],_,_,_,_=>rfl
 |u::us,o,w,i,hi=>by
  show((w.setCell ⟨b,o,none⟩ u).setCells b (o+1) us).heap[i]? =_;rw[Oa b us (o+1) _ i hi];grind[RowKit.Below.heap_setCell]
theorem JI(b:Nat): ∀(us:List Value) (o:Nat) (w:World),(w.setCells b o us).heap.size=w.heap.size/\(w.setCells b o us).os=w.os/\(w.setCells b o us).tape=w.tape/\(w.setCells b o us).output=w.output
 | [],_,_=>⟨rfl,rfl,rfl,rfl⟩
 |u::us,o,w=>by
  obtain⟨h1,h2,h3,h4⟩:=JI b us (o+1) (w.setCell ⟨b,o,none⟩ u);exact⟨h1.trans (World.size_setCell _ _ _),h2,h3,h4⟩
theorem KF(b:Nat): ∀(us:List Value) (o:Nat) (w:World),(w.setCells b o us).drawn=w.drawn
 | [],_,_=>rfl
 |u::us,o,w=>by
  have h1:=KF b us (o+1) (w.setCell ⟨b,o,none⟩ u);exact h1
theorem Qe{vs:List AV}{us:List Value}(ho:vs.all AV.one=true)(r:ct O I vs us): ∀v∈us,v.oneCell'=true:=by
 induction vs generalizing us with
 |nil=>rw[show us=[]from r];simp
 |cons a b ih=>
  obtain⟨v,vr,rfl,p,q⟩:=r;simp only[List.all_cons,j6]at ho;intro x hx;simp at hx;rcases hx with rfl|hx
  .exact VR.one p ho.1
  .exact ih ho.2 q x hx
theorem Hd{e fz n:Nat}{cs:List AV}{L:Loc}(r:HR O I K w0 h w)(hg:h.get b=some (.cells e fz cs))(hb:O b=some L)(hn:o+n<=cs.length):
 ∃us,ct O I ((cs.drop o).take n) us/\us.length=n/\(∀j v,us[j]? =some v->w.cell? ⟨L.blk,L.off+o+j,none⟩=some v):=by
 obtain⟨C,lo,hi,vs,h1,h2,h3,h4,h5,h6,h7⟩:=r.cells hg hb;have hl:=h5.length;refine⟨(vs.drop o).take n,(h5.drop o).take n,by simp;omega,λj v hj=> ?_⟩;rw[uF h1];grind
theorem aQ4{e fz n:Nat}{cs:List AV}{L:Loc}(r:HR O I K w0 h w)(hg:h.get b=some (.cells e fz cs))(hb:O b=some L)(hn:o+n<=cs.length):
 ∃us,ct O I ((cs.drop o).take n) us/\us.length=n/\(loadCells ⟨L.blk,L.off+o,none⟩ n).run P w= .ok us.toArray w:=by
 grind[Hd,run_loadCells_list,jb]
theorem bO2{x a:AV}{vx:Value}(r:HR O I K w0 h w)(e:Fw P t x h=some a)(rx:VR O I x vx): ∃v,VR O I a v/\(Instr.loadAt t vx).run P w= .ok v w:=by
 unfold Fw at e;split at e
 .rename_i b o;split at e
  .rename_i el fz cs hg;obtain⟨L,hL,rfl⟩:=rx;unfold kQ at e;split at e
   .rename_i n h1 h2;obtain⟨hc,e⟩:=Z2 e;rw[cW]at hc;simp at e;subst e;obtain⟨us,r1,r2,r3⟩:=aQ4 (P:=P) r hg hL hc;exact⟨.agg us.toArray,⟨_,rfl,r1⟩,by simp[Instr.loadAt,Instr.sureAddr,Sem.run_bind,Sem.run_pure,Result.andThen_ok,loadVar,BH h1,if_true,fB h2,r3]⟩
   .obtain⟨C,lo,hi,vs,q1,q2,q3,q4,q5,q6,q7⟩:=r.cells hg hL;obtain⟨y,hy,ry⟩:=q5.get o a e;have hlt:o<cs.length:=by
     rcases j9 o cs.length with hh|hh
     .exact hh
     .rw[t7 hh]at e;cases e
    have hcell:w.cell? ⟨L.blk,L.off+o,none⟩=some y:=by rw[uF q1,q6 o hlt,hy]
    simp_all[Instr.loadAt,Instr.sureAddr,loadVar,BH]
   .cases e
  .cases e
 .cases e
theorem Fb{vs:List AV}{us:List Value}{L:Loc}(r:HR O I K w0 h w)(e:putCells h b o vs=some h')(hb:O b=some L)(rv:ct O I vs us):
 (storeCells ⟨L.blk,L.off+o,none⟩ us).run P w= .ok () (w.setCells L.blk (L.off+o) us)/\HR O I K w0 h' (w.setCells L.blk (L.off+o) us)/\St h O h' O:=by
 unfold putCells at e;split at e
 .simp at e;subst e;rw[show us=[]from rv];exact⟨rfl,r,.refl _ _⟩
 .split at e
  .rename_i el fz cs hg;obtain⟨hc,e⟩:=Z2 e;obtain⟨hc,c4⟩:=Z1 hc;obtain⟨hc,c3⟩:=Z1 hc;obtain⟨c1,c2⟩:=Z1 hc;rw[cW]at c1 c2 c3;simp at e;subst e;obtain⟨C,lo,hi,xs,q1,q2,q3,q4,q5,q6,q7⟩:=r.cells hg hb;have hl:=rv.length;have hx:=q5.length;obtain⟨C',s1,s2,s3⟩:=JT L.blk el (lo,hi) us (L.off+o) w C q1;obtain⟨t1,t2,t3,t4⟩:=JI L.blk us (L.off+o) w;refine⟨?_,?_⟩
   .have:=run_storeCells_cells (P:=P) L.blk (L.off+o) us 0 w
     (λj hj=>by
      rw[uF q1];have:L.off+o+0+j<C.size:=by omega
      rw[A2 this];rfl)
     (λj hj=>BW q1 (by have:=q7 (o+j) (by omega) (by omega);rw[show L.off+o+0+j=L.off+(o+j) by omega];exact this))
     (Qe c4 rv)
    omega
   .refine HR.upd r b _ _ L hg hb c1 (λi hi=>Oa L.blk us (L.off+o) w i hi) t1 t2 t3 t4 (KF _ _ _ _) ?_;rw[s1];refine⟨C',lo,hi,xs.take o++us++xs.drop (o+us.length),rfl,by omega,by grind[WD],?_,b99 o q5 rv,λi hi'=> ?_,q7,r.head hg hb⟩
    .simp only[kE,C9,j6];grind[pM,List.all_eq_true,List.mem_of_mem_take,List.mem_of_mem_drop]
    .rw[WD c3]at hi';grind
  .cases e
theorem XF{x v:AV}{vx vv:Value}(r:HR O I K w0 h w)(e:HA P t x v h=some h')(rx:VR O I x vx)(rv:VR O I v vv):
 ∃w',(Instr.storeAt t vx vv).run P w= .ok () w'/\HR O I K w0 h' w'/\St h O h' O:=by
 unfold HA at e;split at e
 .rename_i b o n hn;obtain⟨hc,e⟩:=Z2 e;obtain⟨h0,hc⟩:=Z1 hc;rw[Z4]at hc;obtain⟨L,hL,rfl⟩:=rx;have rc:=VR.cells rv h0;obtain⟨p1,p2,p3⟩:=Fb (P:=P) r e hL rc;refine⟨_,?_,p2,p3⟩;have hs: ¬(vv.cells.size≠n):=by have:=rc.length;grind
  simp only[Instr.storeAt,Instr.sureAddr,Sem.run_bind,Sem.run_pure,Result.andThen_ok,storeVar,fB hn,b9 hs,p1]
 .cases e
theorem Wo(r:HR O I K w0 h w)(elem:TypeId)(cs:List AV)(us:Array Value)(ho:cs.all AV.one=true)(rv:ct O I cs us.toList)(ext:Nat)(he:ext<=us.size)(hc:cs.length<=ext):
 HR (O.add h.next ⟨w.heap.size,0,ext⟩) I K w0 (h.new (.cells elem 0 cs)) (w.alloc (.cells us elem))/\St h O (h.new (.cells elem 0 cs)) (O.add h.next ⟨w.heap.size,0,ext⟩):=by
 refine r.new _ _ 0 ext ?_;have hle:Le O (O.add h.next ⟨w.heap.size,0,ext⟩):=by
  intro b L hb;simp[cq.add];by_cases e:b=h.next
  .subst e;rw[r.fresh _ (e9 _)]at hb;cases hb
  grind
 refine⟨us,0,0,us.toList,rfl,by grind,hc,pM ho,ct.mono hle _ _ rv,λi hi=>by simp,λi _ _=>by omega,λ_=>rfl⟩
theorem cq.add_self(O:cq)(n:Nat)(L:Loc):O.add n L n=some L:=by simp[cq.add]
theorem WG{v a:AV}{vv:Value}(r:HR O I K w0 h w)(e:Iw t v h=some (a,h'))(rv:VR O I v vv):
 ∃ac x w',(do pure (Value.pointer (some (<-newVar t vv))):Sem Value).run P w= .ok x w'/\VR ac I a x/\HR ac I K w0 h' w'/\St h O h' ac:=by
 obtain⟨hc,e⟩:=Z2 e;obtain⟨rfl,rfl⟩:=e;have rc:=VR.cells rv (by cases v<;>first|rfl|trivial);have hl:=rc.length;simp at hl;obtain⟨p1,p2⟩:=Wo r t v.cells vv.cells hc rc vv.cells.size (e9 _) (by omega);exact⟨_,_,_,rfl,⟨_,cq.add_self _ _ _,rfl⟩,p1,p2⟩
end Go.Ev
namespace Go.Ev
open Go
variable{v:Value}
variable{P:Program}{O:cq}{I:Opq}{K:Nat->Prop}{w0 w:World}{h h':Heap}
def Ok(P:Program)(O:cq)(I:Opq)(K:Nat->Prop)(w0 w:World)(h:Heap)(m:Sem Value)(a:AV)(h':Heap):Prop:=
 ∃ac v w',m.run P w= .ok v w'/\VR ac I a v/\HR ac I K w0 h' w'/\St h O h' ac
theorem VR.cells'{a:AV}(r:VR O I a v)(hn:a≠ .any):ct O I a.cells v.cells.toList:=by
 cases a with
 |tup vs=>obtain⟨xs,rfl,p⟩:=r;exact .one ⟨xs,rfl,p⟩
 |any=>grind
 |_=>exact VR.cells r rfl
theorem JW{a:AV}(h:xG v=some a):a≠ .any:=by
 rintro rfl;unfold xG at h;split at h
 .simp at h
 .grind[AV.undef]
 .have:=c26 h;cases this
theorem d47{a:AV}(h:a.cells.all AV.one=true):a≠ .any:=by
 grind[AV.cells,AV.one]
theorem bq4{t:TypeId}{z:AV}(e:jk P t=some z): ∃i v,P.info? t=some i/\i.zero=some v/\v.cells.size=z.cells.length/\ ∀(O:cq) (I:Opq),ct O I z.cells v.cells.toList:=by
 unfold jk at e;cases hi:P.info? t with
 |none=>grind
 |some i=>
  simp[hi,Option.bind_some,o8]at e;obtain⟨v,hv,hz⟩:=e;have: ∀(O:cq) (I:Opq),ct O I z.cells v.cells.toList:=λO I=>VR.cells' (vF hz) (JW hz)
  exact⟨i,v,rfl,hv,by have:=(this (λ_=>none) ⟨λ_=> .nilIface,λ_=> .vb false,λ_ _=> .vb false,λ_=>rfl,λ_=>false,λ_=>none⟩).length;omega,this⟩
theorem cf2{x:AV}{n:Nat}(e:ig x=some n)(rx:VR O I x v)(w:World):(Builtin.lenOf v).run P w= .ok n w:=by
 cases x<;>simp only[ig,j0,reduceCtorEq]at e<;>subst e<;>simp only[VR]at rx
 .simp_all[Builtin.lenOf,ByteArray.size]
 .subst rx;rfl
 .obtain⟨L,_,rfl⟩:=rx;rfl
 .obtain⟨L,c,_,_,rfl⟩:=rx;rfl
 .obtain⟨L,a,c,_,rfl,_⟩:=rx;rfl
 .obtain⟨a,rfl⟩:=rx;rfl
theorem Yq: ∀(l:List UInt8),ct O I (l.map λb=>AV.int .u8 b.toNat) (l.map λb=>Value.int .u8 b.toNat)
 | []=> .nil
 |b::r=> .cons rfl (Yq r)
theorem UK{s n:Nat}{x:AV}{l:List AV}(r:HR O I K w0 h w)(e:yA s n x h=some l)(rx:VR O I x v):
 ∃us,ct O I l us/\l.all AV.one=true/\ ∀w':World,w'.heap=w.heap->(Builtin.firstCells s n v).run P w'= .ok us.toArray w':=by
 have row: ∀(b o:Nat) (L:Loc) (a:Addr) (c m:Nat),O b=some L->a=⟨L.blk,L.off+o,none⟩->v= .slice (some a) m c->
  (match h.get b with
   |some (.cells _ _ cs)=>bif Nat.ble (o+n*s) cs.length&&((cs.drop o).take (n*s)).all AV.one then some ((cs.drop o).take (n*s))else none
   |_=>none)=some l->
  ∃us,ct O I l us/\l.all AV.one=true/\ ∀w':World,w'.heap=w.heap->(Builtin.firstCells s n v).run P w'= .ok us.toArray w':=by
  intro b o L a c m hL ha hv e;split at e
  .grind[cW,Option.some.injEq,Hd,run_firstCells_some,jb,World.cell?]
  .cases e
 have nil: ∀(a:Option Addr) (c m:Nat),v= .slice a m c->n=0-> ∀w':World,(Builtin.firstCells s n v).run P w'= .ok (([]:List Value).toArray) w':=by
  intro a c m hv hn w';subst hv hn;cases a with
  |none=>rfl
  |some a=>
   grind[run_firstCells_some]
 cases x with
 |nils=>
  obtain⟨hc,e⟩:=Z2 e;simp at e;subst e;exact⟨[],.nil,rfl,λw' _=>nil _ _ _ rx (by simp_all) w'⟩
 |es b o sz=>
  obtain⟨hc,e⟩:=Z2 e;simp at e;subst e;obtain⟨L,a,c,_,rx,_⟩:=rx;exact⟨[],.nil,rfl,λw' _=>nil _ _ _ rx (by simp_all) w'⟩
 |es0=>
  obtain⟨hc,e⟩:=Z2 e;simp at e;subst e;obtain⟨a,rx⟩:=rx;exact⟨[],.nil,rfl,λw' _=>nil _ _ _ rx (by simp_all) w'⟩
 |str t=>
  simp only[yA,j0]at e;subst e;simp[VR]at rx;refine⟨_,Yq _,k8.2 λx hx=>by obtain⟨_,_,rfl⟩:=j7.1 hx;rfl,λw' _=> ?_⟩;grind[Builtin.firstCells,Sem.run_pure,ByteArray.data_extract,Array.ext']
 |sl b o len cap=>
  obtain⟨L,hL,rfl⟩:=rx;exact row b o L _ _ _ hL rfl rfl e
 |us b o len sz=>
  obtain⟨L,c,hL,_,rfl⟩:=rx;exact row b o L _ _ _ hL rfl rfl e
 |_=>trivial
theorem c27(r:HR O I K w0 h w)(elem:TypeId)(cs:List AV)(us:List Value)(tail:Array Value)(ho:cs.all AV.oneA=true)(rv:ct O I cs us)(ext:Nat)(he:ext=us.length+tail.size)(fz:Nat):
 HR (O.add h.next ⟨w.heap.size,0,ext⟩) I K w0 (h.new (.cells elem fz cs)) (w.drew.alloc (.cells (us.toArray++tail) elem))/\St h O (h.new (.cells elem fz cs)) (O.add h.next ⟨w.heap.size,0,ext⟩):=by
 refine r.drew.new _ _ 0 ext ?_;have hle:Le O (O.add h.next ⟨w.heap.size,0,ext⟩):=by
  intro b L hb;simp[cq.add];by_cases e:b=h.next
  .subst e;rw[r.fresh _ (e9 _)]at hb;cases hb
  .rw[b9 e];exact hb
 have hl:=rv.length;refine⟨us.toArray++tail,0,0,us,rfl,by simp;omega,by simp;omega,ho,ct.mono hle _ _ rv,λi hi=> ?_,λi _ _=>by omega,λ_=>rfl⟩;grind
theorem HR.rename{w':World}(r:HR O I K w0 h w)(b:Nat)(x0 x:Blk)(L L':Loc)(hg:h.get b=some x0)(hb:O b=some L)(hwm:h.wm<=b)(hbk:L'.blk=L.blk)
 (hother: ∀i,i≠L.blk->w'.heap[i]? =w.heap[i]?) (hsz:w'.heap.size=w.heap.size) (hos:w'.os=w.os) (htp:w'.tape=w.tape) (hout:w'.output=w.output) (hdr:w'.drawn=w.drawn)
 (hx:BR (O.add h.next L') I L' w'.heap[L.blk]? x):HR (O.add h.next L') I K w0 ((h.put b none).new x) w'/\St h O ((h.put b none).new x) (O.add h.next L'):=by
 have hlt:=r.lt b L hb;have hbn:b<h.next:=by
  rcases j9 b h.next with hh|hh
  .exact hh
  .rw[r.fresh b hh]at hb;cases hb
 have gf: ∀b',((h.put b none).new x).get b'=if b'=h.next then(if h.next<65536 then some x else none)else if b'=b then none else h.get b':=by
  intro b';rw[Heap.get_new,Heap.next_put];split
  .rfl
  .rw[Heap.get_put];split
   .split<;>rfl
   .rfl
 have hle:Le O (O.add h.next L'):=by
  intro b' M hb';simp[cq.add];by_cases e:b'=h.next
  .subst e;rw[r.fresh _ (e9 _)]at hb';cases hb'
  .rw[b9 e];exact hb'
 refine⟨⟨?_,?_,?_,?_,?_,r.kin,?_,?_,?_,hos.trans r.os,htp.trans r.tape,hout.trans r.out,by rw[hdr];exact r.dr⟩,⟨by simp,λb' hb'=> ?_,λb' hb' hn=> ?_,rfl⟩⟩
 .intro b' y M hg' hb';rw[gf]at hg';simp[cq.add]at hb';by_cases e:b'=h.next
  .rw[e8 e]at hg' hb';simp at hb';subst hb';split at hg'
   .simp at hg';subst hg';rw[hbk];exact hx
   .cases hg'
  .rw[b9 e]at hg' hb';split at hg'
   .cases hg'
   .rename_i e2;rw[hother _ (r.sep b' b y x0 M L hg' hg hb' hb e2 (.inr (.inl hwm)))];exact(r.blk b' y M hg' hb').mono hle
 .intro b1 b2 y1 y2 M1 M2 g1 g2 m1 m2 hne hw;rw[gf]at g1 g2;simp[cq.add]at m1 m2;by_cases e1:b1=h.next
  .rw[e8 e1]at m1;simp at m1;subst m1;by_cases e2:b2=h.next
   .exact absurd (e1.trans e2.symm) hne
   .rw[b9 e2]at g2 m2;split at g2
    .cases g2
    .rename_i e3;rw[hbk];exact r.sep b b2 x0 y2 L M2 hg g2 hb m2 (Ne.symm e3) (.inl hwm)
  .rw[b9 e1]at g1 m1;split at g1
   .cases g1
   .rename_i e3;by_cases e2:b2=h.next
    .rw[e8 e2]at m2;simp at m2;subst m2;rw[hbk];exact r.sep b1 b y1 x0 M1 L g1 hg m1 hb e3 (.inr (.inl hwm))
    .rw[b9 e2]at g2 m2;split at g2
     .cases g2
     .exact r.sep b1 b2 y1 y2 M1 M2 g1 g2 m1 m2 hne hw
 .intro b' hb';simp at hb';simp[cq.add];rw[b9 (by omega)];exact r.fresh b' (by omega)
 .intro b' hb';simp at hb';rw[gf,b9 (by omega),b9 (by omega)];exact r.fget b' (by omega)
 .intro b' M hb';rw[hsz];simp[cq.add]at hb';split at hb'
  .simp at hb';subst hb';rw[hbk];exact hlt
  .exact r.lt b' M hb'
 .intro i hi;rw[hother i (λe=>r.free b x0 L hg hwm hb (e▸hi))];exact r.keep i hi
 .intro b' y M hg' hw' hb';rw[gf]at hg';simp[cq.add]at hb';by_cases e:b'=h.next
  .rw[e8 e]at hb';simp at hb';subst hb';rw[hbk];exact r.free b x0 L hg hwm hb
  .rw[b9 e]at hg' hb';split at hg'
   .cases hg'
   .exact r.free b' y M hg' hw' hb'
 .rw[hsz];exact r.size
 .simp only[cq.add];rw[b9 (by omega)]
 grind
end Go.Ev
namespace Go.Ev
open Go
variable{n sCap sLen:Nat}{ty elem t tx:TypeId}{i:TypeInfo}{z x:Value}{news:List Value}{new:List AV}
variable{P:Program}{O:cq}{I:Opq}{K:Nat->Prop}{w0 w:World}{h h':Heap}
theorem cf3{need old bytes:Nat}(h:old<need)(hn:need<=room)(hb:bytes<=1000):((need:Nat):Int)<=9223372036854775807/\Builtin.nextslicecap need old*bytes<=281474976710656:=by
 have h1:need*bytes<=1000000*1000:=N0 hn hb;refine⟨?_,growslice_fits h (by omega)⟩;have:need<=1000000:=hn;omega
theorem c28(n:Nat)(z:List AV):(dZ n z).length=n*z.length:=by
 induction n with
 |zero=>simp[dZ]
 |succ n ih=>grind[dZ,Nat.add_mul,Nat.add_comm]
theorem cf4{z:List AV}(ho:z.all AV.one=true):(dZ n z).all AV.one=true:=by
 induction n with
 |zero=>rfl
 |succ n ih=>simp_all[dZ,C9,j6]
theorem MX{z:List AV}{zs:Array Value}(r:ct O I z zs.toList)(hp:0<zs.size): ∀n,ct O I (dZ n z) ((Array.range (n*zs.size)).map (λi=>zs[i % zs.size]!)).toList
 |0=>by simp[dZ];rfl
 |n+1=>by
  have ih:=MX r hp n;have:((Array.range ((n+1)*zs.size)).map (λi=>zs[i % zs.size]!)).toList=zs.toList++((Array.range (n*zs.size)).map (λi=>zs[i % zs.size]!)).toList:=by
   simp;rw[x8,G1,E8,List.range_add,n8,n7];congr 1
   .apply J5 (by simp);intro i h1 h2;simp at h1;simp[Nat.mod_eq_of_lt h1,h1]
   simp_all
  rw[this];exact r.append ih
theorem aF8{z:List AV}{zs:Array Value}(r:ct O I z zs.toList)(hp:0<zs.size)(n:Nat):ct O I (dZ n z) (Builtin.zeroCells zs n).toList:=MX r hp n
def SrcZ(P:Program)(i:TypeInfo)(z:Value)(tx:TypeId)(x:Value)(n:Nat)(news:List Value)(w:World):Prop:=
 Src P i.size tx x n news w\/ ∃kq kn,P.underlying tx=some (.int kn)/\x= .int kq n/\n<=room/\i.bytes<=1000/\news=(Builtin.zeroCells z.cells n).toList/\news.length=n*i.size/\ ∀u∈news,u.oneCell'=true
theorem SrcZ.nothing(ht:P.underlying t=some (.slice elem))(hi:P.info? elem=some i)(hs:SrcZ P i z tx x 0 [] w)(base:Option Addr)(sLen sCap:Nat)(hle:sLen<=sCap):
 (Builtin.append_ #[t,tx] ty #[.slice base sLen sCap,x]).run P w= .ok (.slice base sLen sCap) w:=by
 rcases hs with hs|⟨kq,kn,h1,rfl,h3,h4,h5,h6,h7⟩
 .grind[run_append_nothing]
 .have hw:IntKind.i64.wrap (0:Int)=0:=by decide
  cases base<;>simp[Builtin.append_,run_underlying ht,run_underlying h1,sizeOf,typeInfo,hi,asInt,asIntOf,hw,hle,storeCells]
theorem SrcZ.room(ht:P.underlying t=some (.slice elem))(hi:P.info? elem=some i)(hz:i.zero=some z)(hs:SrcZ P i z tx x n news w)(b off sLen sCap:Nat)
 (hroom:sLen+n<=sCap) (hc: ∀j,j<news.length->(w.cell? ⟨b,off+sLen*i.size+j,none⟩).isSome=true) (hf: ∀j,j<news.length->w.frozen? ⟨b,off+sLen*i.size+j,none⟩=false):
 (Builtin.append_ #[t,tx] ty #[.slice (some ⟨b,off,none⟩) sLen sCap,x]).run P w= .ok (.slice (some ⟨b,off,none⟩) (sLen+n) sCap) (w.setCells b (off+sLen*i.size) news):=by
 rcases hs with hs|⟨kq,kn,h1,rfl,h3,h4,h5,h6,h7⟩
 .exact run_append_room_src w t tx ty elem i ht hi b off sLen sCap x n news hs hroom hc hf
 .have hst:=run_storeCells_cells (P:=P) b (off+sLen*i.size) news 0 w (by omega) (by omega) h7;have h3':n<=1000000:=h3;have hmul:n*i.bytes<=1000000*1000:=N0 h3' h4;have hw:IntKind.i64.wrap (n:Int)=n:=by rw[IntKind.wrap_i64];omega
  have h48i: ¬(281474976710656<(n:Int)*(i.bytes:Int)):=by omega
  have hneg: ¬((n:Int)<0):=by omega
  by_cases h0:n*i.size=0
  .have hn:news=[]:=C1 (by omega);rw[hn]at hst⊢;simp[Builtin.append_,run_underlying ht,run_underlying h1,sizeOf,typeInfo,zeroValue,hi,hz,asInt,asIntOf,hw,hneg,h48i,hroom,h0,Addr.add_lit,hst]
  .have hn:(Builtin.zeroCells z.cells n).toList=news:=h5.symm;simp[Builtin.append_,run_underlying ht,run_underlying h1,sizeOf,typeInfo,zeroValue,hi,hz,asInt,asIntOf,hw,hneg,h48i,hroom,h0,Addr.add_lit,hn,hst]
theorem SrcZ.grow(ht:P.underlying t=some (.slice elem))(hi:P.info? elem=some i)(hz:i.zero=some z)(hs:SrcZ P i z tx x n news w)(h0:0<n)(h1:0<i.size)(base:Option Addr)(sLen sCap:Nat)(olds:List Value)
 (hold:(Builtin.firstCells i.size sLen (.slice base sLen sCap)).run P w.drew= .ok olds.toArray w.drew) (hg:sCap<sLen+n) (h63:((sLen+n:Nat):Int)<=9223372036854775807) (hfit:Builtin.nextslicecap (sLen+n) sCap*i.bytes<=281474976710656):
 (Builtin.append_ #[t,tx] ty #[.slice base sLen sCap,x]).run P w=
  .ok (.slice (some ⟨w.heap.size,0,none⟩) (sLen+n) (grownCap w (sLen+n) sCap elem))
   (w.drew.alloc (.cells ((olds++news).toArray++Builtin.zeroCells z.cells (grownCap w (sLen+n) sCap elem-(sLen+n))) elem)):=by
 rcases hs with hs|⟨kq,kn,g1,rfl,g3,g4,g5,g6,g7⟩
 .exact run_append_grow_src w t tx ty elem i z ht hi hz base sLen sCap olds hold x n news hs hg h63 hfit
 .have g3':n<=1000000:=g3;have hmul:n*i.bytes<=1000000*1000:=N0 g3' g4;rw[Lib.run_append_grow_zeros w t tx ty elem i z kq kn ht g1 hi hz base sLen sCap olds hold n h0 h1 hg h63 (by omega) hfit,g5];congr 3;grind
theorem d48{yt elem:TypeId}{i:TypeInfo}{zv:Value}{z:List AV}{n:Nat}{y:AV}{new:List AV}{v:Value}(r:HR O I K w0 h w)(e:SA P yt i.size z y h=some (n,new))(ry:VR O I y v)(hz:ct O I z zv.cells.toList)(hzs:zv.cells.size=i.size)(hb:i.bytes<=1000):
 ∃news,ct O I new news/\new.all AV.one=true/\new.length=n*i.size/\SrcZ P i zv yt v n news w:=by
 have main:((∃e',P.underlying yt=some (.slice e'))\/P.underlying yt=some .string)->lZ i.size y h=some (n,new)->
  ∃news,ct O I new news/\new.all AV.one=true/\new.length=n*i.size/\SrcZ P i zv yt v n news w:=by
  intro hk e;unfold lZ at e;split at e
  .rename_i m hm;simp[o8]at e;obtain⟨l,hl,e⟩:=e;obtain⟨hc,e⟩:=Z2 e;rw[Z4]at hc;obtain⟨rfl,rfl⟩:=e;obtain⟨us,u1,u2,u3⟩:=UK (P:=P) r hl ry;exact⟨us,u1,u2,hc,.inl ⟨hk,λw'=>cf2 hm ry w',u3 w rfl,u3 w.drew rfl,by rw[u1.length];exact hc,Qe u2 u1⟩⟩
  .cases e
 unfold SA at e;split at e
 .simp_all
 .grind
 .rename_i kn he;unfold XH at e;split at e
  .rename_i k m;split at e
   .rename_i q hq;obtain⟨hc,e⟩:=Z2 e;obtain⟨hc,c3⟩:=Z1 hc;obtain⟨c1,c2⟩:=Z1 hc;rw[cW]at c1;rw[fc]at c3;simp at e;obtain⟨rfl,rfl⟩:=e;have hm:m=(q:Int):=by
     cases m with
     |ofNat m=>grind[vN,Option.some.injEq]
     |negSucc m=>cases hq
    simp[VR]at ry;have hzl:z.length=i.size:=by have:=hz.length;grind
    have rr:=aF8 hz (by omega) q;have hl:(dZ q z).length=q*i.size:=by rw[c28,hzl]
    exact⟨_,rr,cf4 c2,hl,.inr ⟨k,kn,he,by grind,c1,hb,rfl,by rw[rr.length];exact hl,Qe (cf4 c2) rr⟩⟩
   .cases e
  .cases e
 .cases e
theorem zD{base:Option Addr}{old:List AV}{olds:List Value}(r:HR O I K w0 h w)
 (ht:P.underlying t=some (.slice elem)) (hi:P.info? elem=some i) (hz:i.zero=some z) (hzs:z.cells.size=i.size)
 (hold:(Builtin.firstCells i.size sLen (.slice base sLen sCap)).run P w.drew= .ok olds.toArray w.drew) (hs:SrcZ P i z tx x n news w) (h0n:0<n) (h0s:0<i.size) (hg:sCap<sLen+n) (hn:sLen+n<=room) (hb:i.bytes<=1000)
 (ro:ct O I old olds) (oo:old.all AV.oneA=true) (lo:old.length=sLen*i.size) (rn:ct O I new news) (on:new.all AV.one=true) (ln:new.length=n*i.size) (fz:Nat):
 Ok P O I K w0 w h (Builtin.append_ #[t,tx] ty #[.slice base sLen sCap,x]) (.us h.next 0 (sLen+n) i.size) (h.new (.cells elem fz (old++new))):=by
 obtain⟨g1,g2⟩:=cf3 (bytes:=i.bytes) hg hn hb;have hrun:=hs.grow (ty:=ty) ht hi hz h0n h0s base sLen sCap olds hold hg g1 g2;have hge:=grownCap_ge w (sLen+n) sCap elem;have h1:=ro.length;have h2:=rn.length;obtain⟨p1,p2⟩:=c27 r elem (old++new) (olds++news) (Builtin.zeroCells z.cells (grownCap w (sLen+n) sCap elem-(sLen+n))) (by rw[C9,pM on,oo];rfl) (ro.append rn)
  (grownCap w (sLen+n) sCap elem*i.size) (by
   rw[size_zeroCells,hzs,k5,h1,h2,lo,ln,Nat.sub_mul,<-x8];have:(sLen+n)*i.size<=grownCap w (sLen+n) sCap elem*i.size:=A1 _ hge;omega) fz
 exact⟨_,_,_,hrun,⟨⟨w.heap.size,0,grownCap w (sLen+n) sCap elem*i.size⟩,grownCap w (sLen+n) sCap elem,cq.add_self _ _ _,by simp,by simp⟩,p1,p2⟩
theorem cf5{b o:Nat}{L:Loc}(r:HR O I K w0 h w)
 (ht:P.underlying t=some (.slice elem)) (hi:P.info? elem=some i) (hz:i.zero=some z) (hs:SrcZ P i z tx x n news w) (hroom:sLen+n<=sCap) (hL:O b=some L) (rn:ct O I new news)
 (e:putCells h b (o+sLen*i.size) new=some h'):
 (Builtin.append_ #[t,tx] ty #[.slice (some ⟨L.blk,L.off+o,none⟩) sLen sCap,x]).run P w= .ok (.slice (some ⟨L.blk,L.off+o,none⟩) (sLen+n) sCap) (w.setCells L.blk (L.off+o+sLen*i.size) news)/\
  HR O I K w0 h' (w.setCells L.blk (L.off+o+sLen*i.size) news)/\St h O h' O:=by
 obtain⟨p1,p2,p3⟩:=Fb (P:=P) r e hL rn;rw[show L.off+(o+sLen*i.size)=L.off+o+sLen*i.size by omega]at p1 p2;refine⟨?_,p2,p3⟩;refine hs.room ht hi hz L.blk (L.off+o) sLen sCap hroom ?_ ?_;all_goals
  unfold putCells at e;split at e
  .rw[show news=[]from rn];grind
  .split at e
   .rename_i el fz cs hg;obtain⟨hc,e⟩:=Z2 e;obtain⟨hc,c4⟩:=Z1 hc;obtain⟨hc,c3⟩:=Z1 hc;obtain⟨c1,c2⟩:=Z1 hc;rw[cW]at c1 c2 c3;obtain⟨C,lo,hi',xs,q1,q2,q3,q4,q5,q6,q7⟩:=r.cells hg hL;have hl:=rn.length;intro j hj;first
     |(rw[uF q1]
       grind)
     |exact BW q1 (by have:=q7 (o+sLen*i.size+j) (by omega) (by omega);omega)
   .cases e
theorem VP{b o fz:Nat}{L:Loc}{cs:List AV}(r:HR O I K w0 h w)
 (ht:P.underlying t=some (.slice elem)) (hi:P.info? elem=some i) (hz:i.zero=some z) (hzs:z.cells.size=i.size) (h0:0<i.size) (hs:SrcZ P i z tx x n news w) (h0n:0<n) (hn:sLen+n<=room) (hb:i.bytes<=1000)
 (hL:O b=some L) (hg:h.get b=some (.cells elem fz cs)) (hwm:h.wm<=b) (hext:o+sCap*i.size=L.ext) (hfz:fz<=o+sLen*i.size) (hlen:o+sLen*i.size<=cs.length)
 (rn:ct O I new news) (on:new.all AV.one=true) (ln:new.length=n*i.size) (hnf:I.fix elem=false) (fz':Nat) (hfz':fz-o<=fz'):
 Ok P O I K w0 w h (Builtin.append_ #[t,tx] ty #[.slice (some ⟨L.blk,L.off+o,none⟩) sLen sCap,x]) (.us h.next 0 (sLen+n) i.size) ((h.put b none).new (.cells elem fz' ((cs.drop o).take (sLen*i.size)++new))):=by
 have hnl:=rn.length;obtain⟨C,lo,hi',xs,q1,q2,q3,q4,q5,q6,q7⟩:=r.cells hg hL;have hxl:=q5.length;have ho1:((cs.drop o).take (sLen*i.size)).all AV.oneA=true:=k8.2 λx hx=>k8.1 q4 x (U6 (I0 hx))
 have hol:((cs.drop o).take (sLen*i.size)).length=sLen*i.size:=by simp;omega
 by_cases hroom:sLen+n<=sCap
 .have hmul:(sLen+n)*i.size<=sCap*i.size:=A1 _ hroom;rw[x8]at hmul;have hrun:=hs.room (ty:=ty) ht hi hz L.blk (L.off+o) sLen sCap hroom
   (λj hj=>by
    rw[uF q1];have:L.off+o+sLen*i.size+j<C.size:=by omega
    rw[A2 this];rfl)
   (λj hj=>BW q1 (by have:=q7 (o+sLen*i.size+j) (by omega) (by omega);rw[show L.off+o+sLen*i.size+j=L.off+(o+sLen*i.size+j) by omega];exact this))
  obtain⟨C',s1,s2,s3⟩:=JT L.blk elem (lo,hi') news (L.off+o+sLen*i.size) w C q1;obtain⟨t1,t2,t3,t4⟩:=JI L.blk news (L.off+o+sLen*i.size) w;have hle:Le O (O.add h.next ⟨L.blk,L.off+o,L.ext-o⟩):=by
   intro b' M hb';simp[cq.add];by_cases e:b'=h.next
   .subst e;rw[r.fresh _ (e9 _)]at hb';cases hb'
   .rw[b9 e];exact hb'
  obtain⟨p1,p2⟩:=HR.rename (w':=w.setCells L.blk (L.off+o+sLen*i.size) news) r b _ (.cells elem fz' ((cs.drop o).take (sLen*i.size)++new)) L ⟨L.blk,L.off+o,L.ext-o⟩ hg hL hwm rfl
   (λk hk=>Oa L.blk news _ w k hk) t1 t2 t3 t4 (KF _ _ _ _) (by
    rw[s1];refine⟨C',lo,hi',(xs.drop o).take (sLen*i.size)++news,rfl,by simp;omega,by simp;omega,by rw[C9,ho1,pM on];rfl,?_,λk hk=> ?_,λk hk1 hk2=> ?_,λhh=>by rw[hnf]at hh;cases hh⟩
    .exact ct.mono hle _ _ (((q5.drop o).take _).append rn)
    .simp at hk;show C'[L.off+o+k]? =_;rw[s3 _ (by omega)];have hx2:((xs.drop o).take (sLen*i.size)).length=sLen*i.size:=by simp;omega
     by_cases g:k<sLen*i.size
     .rw[b9 (by omega),x6 (by omega),C3,e8 g,D6,y5,q6 (o+k) (by omega)]
     .rw[e8 (by omega),o7 (by omega),hx2];congr 1;omega
    .simp at hk2;have:=q7 (o+k) (by omega) (by omega);rw[y5];exact this)
  exact⟨_,_,_,hrun,⟨⟨L.blk,L.off+o,L.ext-o⟩,sCap,cq.add_self _ _ _,by simp;omega,by simp⟩,p1,p2⟩
 .obtain⟨olds,u1,u2,u3⟩:=Hd r hg hL hlen;obtain⟨r1,st1⟩:=r.kill b L hL;have hold:(Builtin.firstCells i.size sLen (.slice (some ⟨L.blk,L.off+o,none⟩) sLen sCap)).run P w.drew= .ok olds.toArray w.drew:=
   run_firstCells_some w.drew i.size sLen _ sLen sCap olds u2 (λj v hj=>by rw[jb];exact u3 j v hj)
  obtain⟨ac,v,w',e1,e2,e3,e4⟩:=zD (ty:=ty) (h:=h.put b none) r1 ht hi hz hzs hold hs h0n h0 (by omega) hn hb u1 ho1 hol rn on ln fz';exact⟨ac,v,w',e1,e2,e3,st1.trans e4⟩
theorem dN3{b o fz:Nat}{L:Loc}{ad:Addr}{cs:List AV}(r:HR O I K w0 h w)
 (ht:P.underlying t=some (.slice elem)) (hi:P.info? elem=some i) (hz:i.zero=some z) (hzs:z.cells.size=i.size) (h0:0<i.size) (hs:SrcZ P i z tx x n news w) (hn:0+n<=room) (hb:i.bytes<=1000)
 (hL:O b=some L) (hg:h.get b=some (.cells elem fz cs)) (hwm:h.wm<=b) (hor:sCap=0\/ad=⟨L.blk,L.off+o,none⟩/\o+sCap*i.size=L.ext) (hfz:fz<=o)
 (rn:ct O I new news) (on:new.all AV.one=true) (ln:new.length=n*i.size) (hnf:I.fix elem=false) (hn0:0<n):
 Ok P O I K w0 w h (Builtin.append_ #[t,tx] ty #[.slice (some ad) 0 sCap,x]) (.us h.next 0 n i.size) ((h.put b none).new (.cells elem 0 new)):=by
 have hnl:=rn.length;obtain⟨C,lo,hi',xs,q1,q2,q3,q4,q5,q6,q7⟩:=r.cells hg hL;by_cases hroom:0+n<=sCap
 .rcases hor with hor|⟨rfl,hext⟩
  .omega
  have hmul:(0+n)*i.size<=sCap*i.size:=A1 _ hroom;rw[m9]at hmul;have hrun:=hs.room (ty:=ty) ht hi hz L.blk (L.off+o) 0 sCap hroom
   (λj hj=>by
    rw[uF q1];grind)
   (λj hj=>BW q1 (by have:=q7 (o+j) (by omega) (by omega);omega))
  rw[show L.off+o+0*i.size=L.off+o by omega]at hrun;obtain⟨C',s1,s2,s3⟩:=JT L.blk elem (lo,hi') news (L.off+o) w C q1;obtain⟨t1,t2,t3,t4⟩:=JI L.blk news (L.off+o) w;have hle:Le O (O.add h.next ⟨L.blk,L.off+o,L.ext-o⟩):=by
   intro b' M hb';simp[cq.add];by_cases e:b'=h.next
   .subst e;rw[r.fresh _ (e9 _)]at hb';cases hb'
   grind
  obtain⟨p1,p2⟩:=HR.rename (w':=w.setCells L.blk (L.off+o) news) r b _ (.cells elem 0 new) L ⟨L.blk,L.off+o,L.ext-o⟩ hg hL hwm rfl
   (λk hk=>Oa L.blk news _ w k hk) t1 t2 t3 t4 (KF _ _ _ _) (by
    rw[s1];refine⟨C',lo,hi',news,rfl,by grind,by grind,pM on,ct.mono hle _ _ rn,λk hk=> ?_,λk hk1 hk2=> ?_,λhh=>by grind⟩
    .grind
    .simp at hk2;have:=q7 (o+k) (by omega) (by omega);grind)
  exact⟨_,_,_,hrun,⟨⟨L.blk,L.off+o,L.ext-o⟩,sCap,cq.add_self _ _ _,by grind,by simp⟩,p1,p2⟩
 .obtain⟨r1,st1⟩:=r.kill b L hL;obtain⟨ac,v,w',e1,e2,e3,e4⟩:=zD (ty:=ty) (h:=h.put b none) (old:=[]) (olds:=[]) (sLen:=0) r1 ht hi hz hzs (run_firstCells_some w.drew _ _ ad _ sCap [] (by simp) (by simp)) hs hn0 h0 (by omega) hn hb .nil rfl (by simp) rn on ln 0;simp at e2 e3 e4;exact⟨ac,v,w',e1,e2,e3,st1.trans e4⟩
theorem Zu{α:Type}{a:Array α}{x y:α}(h0:a[0]? =some x)(h1:a[1]? =some y)(hs:a.size=2):a= #[x,y]:=by
 grind
theorem cD7{s:Nat}{x:AV}{v:Value}(h0:0<s)(r:HR O I K w0 h w)(e:Oo s x h=true)(rx:VR O I x v): ∃b n c,v= .slice b n c/\n<=c/\ ∀m,ig x=some m->m=n:=by
 cases x with
 |nils=>exact⟨_,_,_,rx,e9 _,λm hm=>by grind[ig]⟩
 |es b o sz=>obtain⟨L,a,c,_,rfl,_⟩:=rx;exact⟨_,_,_,rfl,s7 _,λm hm=>by grind[ig]⟩
 |es0=>obtain⟨a,rfl⟩:=rx;exact⟨_,_,_,rfl,e9 _,λm hm=>by grind[ig]⟩
 |sl b o l c=>
  simp only[Oo]at e;rw[cW]at e;obtain⟨L,_,rfl⟩:=rx;exact⟨_,_,_,rfl,e,λm hm=>by grind[ig]⟩
 |us b o l sz=>
  obtain⟨e1,e2⟩:=Z1 e;rw[Z4]at e1;subst e1;obtain⟨L,c,hL,hx,rfl⟩:=rx;split at e2
  .rename_i el fz cs hg;rw[cW]at e2;obtain⟨C,lo,hi,xs,q1,q2,q3,q4,q5,q6,q7⟩:=r.cells hg hL;refine⟨_,_,_,rfl,?_,λm hm=>by simpa[ig]using hm.symm⟩;have:l*s<=c*s:=by omega
   exact F5 this h0
  grind
 |_=>trivial
theorem cD8{x:AV}{v:Value}(e:ig x=some n)(rx:VR O I x v):(∃b c,v= .slice b n c)\/(∃l,x= .str l):=by
 cases x<;>simp only[ig,j0,reduceCtorEq]at e<;>subst e<;>simp only[VR]at rx
 .exact .inr ⟨_,rfl⟩
 .exact .inl ⟨_,_,rx⟩
 .obtain⟨L,_,rfl⟩:=rx;exact .inl ⟨_,_,rfl⟩
 .obtain⟨L,c,_,_,rfl⟩:=rx;exact .inl ⟨_,_,rfl⟩
 .obtain⟨L,a,c,_,rfl,_⟩:=rx;exact .inl ⟨_,_,rfl⟩
 grind
theorem c29{ts:Array TypeId}{ty:TypeId}{x y a:AV}{vx vy:Value}(hfx: ∀t,I.fix t=gv P t)(r:HR O I K w0 h w)(e:Pe P ts x y h=some (a,h'))(rx:VR O I x vx)(ry:VR O I y vy):
 Ok P O I K w0 w h (Builtin.append_ ts ty #[vx,vy]) a h':=by
 unfold Pe at e;split at e
 .rename_i elem yt h1 h2;split at e
  .rename_i lx i z hlx hi hz;split at e
   .cases e
   .rename_i n new kL;replace e:=Z2 e;obtain⟨hc,e⟩:=e;obtain⟨hc,c7⟩:=Z1 hc;have hnf:I.fix elem=false:=by grind
    obtain⟨hc,c6⟩:=Z1 hc;obtain⟨hc,c5⟩:=Z1 hc;obtain⟨hc,c4⟩:=Z1 hc;obtain⟨c1,c2⟩:=Z1 hc;rw[fc]at c1;rw[Z4]at c2 c6;rw[cW]at c4 c5;simp[o8]at h1;obtain⟨t,h0,ht⟩:=h1;obtain rfl:=Zu h0 h2 c6;obtain⟨i',zv,hi',hzi,hzs,hzv⟩:=bq4 hz;rw[hi]at hi';simp at hi';subst hi';have hzs':zv.cells.size=i.size:=hzs.trans c2;obtain⟨news,rn,on,ln,hs⟩:=d48 (P:=P) (elem:=elem) r kL ry (hzv O I) hzs' c5;cases hn:Nat.beq n 0 with
    |true=>
     rw[hn]at e;obtain⟨hf,e⟩:=Z2 e;obtain⟨rfl,rfl⟩:=e;rw[Z4]at hn;subst hn;obtain⟨b,m,c,rfl,hm,-⟩:=cD7 c1 r hf rx;have:news=[]:=by have:=rn.length;grind
     subst this;exact⟨O,_,_,hs.nothing ht hi b m c hm,rx,r,.refl _ _⟩
    |false=>
     rw[hn]at e;replace e:Sp elem i.size x n new h=some (a,h'):=e;have hn0:0<n:=by rcases N1 n with h|h; ·simp_all
                                                                                   .exact h
     unfold Sp at e;split at e
     .simp[VR]at rx;simp[ig,j0]at hlx;subst hlx;have:=zD (ty:=ty) (old:=[]) (olds:=[]) (sLen:=0) (sCap:=0) (base:=none) r ht hi hzi hzs' (run_firstCells_none w.drew _ _ _ _) hs hn0 c1 (by omega) c4 c5 .nil rfl (by simp) rn on ln 0;grind
     .obtain⟨ad,rfl⟩:=rx;simp[ig,j0]at hlx;subst hlx;have:=zD (ty:=ty) (old:=[]) (olds:=[]) (sLen:=0) (sCap:=0) (base:=some ad) r ht hi hzi hzs' (run_firstCells_some w.drew _ _ _ _ _ [] (by simp) (by simp)) hs hn0 c1 (by omega) c4 c5 .nil rfl (by simp) rn on ln 0;grind
     .rename_i b o len cap;simp[ig,j0]at hlx;subst hlx;have rx':=rx;obtain⟨L,hL,rfl⟩:=rx;cases hr:Nat.ble (len+n) cap with
      |true=>
       rw[hr]at e;simp only[cond_true,o9,A3]at e;obtain⟨h1,he,rfl,rfl⟩:=e;rw[cW]at hr;obtain⟨p1,p2,p3⟩:=cf5 (ty:=ty) r ht hi hzi hs hr hL rn he;exact⟨O,_,_,p1,⟨L,hL,rfl⟩,p2,p3⟩
      |false=>
       rw[hr]at e;simp[cond_false,o8]at e;obtain⟨old,he,e⟩:=e;obtain⟨hlen,e⟩:=Z2 e;rw[Z4]at hlen;obtain⟨rfl,rfl⟩:=e;obtain⟨olds,o1,o2,o3⟩:=UK (P:=P) r he rx';have hg:cap<len+n:=by
        grind[Nat.lt_or_ge,cW]
       exact zD (ty:=ty) r ht hi hzi hzs' (o3 w.drew rfl) hs hn0 c1 hg c4 c5 o1 (pM o2) hlen rn on ln 0
     .rename_i b o len sz;simp[ig,j0]at hlx;subst hlx;obtain⟨L,cap,hL,hx,rfl⟩:=rx;cases hsz:Nat.beq i.size sz with
      |false=>grind
      |true=>
       rw[hsz]at e;simp at e;rw[Z4]at hsz;subst hsz;split at e
       .rename_i el fz cs hg;cases hr:Nat.ble (o+(len+n)*i.size) cs.length with
        |true=>
         rw[hr]at e;simp only[cond_true,o9,A3]at e;obtain⟨h1,he,rfl,rfl⟩:=e;rw[cW]at hr;obtain⟨C,lo,hi',xs,q1,q2,q3,q4,q5,q6,q7⟩:=r.cells hg hL;have hroom:len+n<=cap:=F5 (by omega:(len+n)*i.size<=cap*i.size) c1;obtain⟨p1,p2,p3⟩:=cf5 (ty:=ty) r ht hi hzi hs hroom hL rn he;exact⟨O,_,_,p1,⟨L,cap,hL,hx,rfl⟩,p2,p3⟩
        |false=>
         rw[hr]at e;replace e:=Z2 e;obtain⟨hc,e⟩:=e;obtain⟨hc,d4⟩:=Z1 hc;obtain⟨hc,d3⟩:=Z1 hc;obtain⟨d1,d2⟩:=Z1 hc;rw[cW]at d1 d2 d3;rw[Z4]at d4;subst d4;obtain⟨rfl,rfl⟩:=e;exact VP (ty:=ty) r ht hi hzi hzs' c1 hs hn0 c4 c5 hL hg d1 hx d2 d3 rn on ln hnf _ (e9 _)
       .cases e
     .rename_i b o sz;simp[VR]at rx;cases hsz:Nat.beq i.size sz with
      |false=>grind
      |true=>
       rw[hsz]at e;split at e
       .grind[cW,Z4,Option.some.injEq,Prod.mk.injEq,dN3]
       .cases e
     .cases e
  .cases e
 .cases e
end Go.Ev
namespace Go.Ev
open Go
variable{P:Program}{O:cq}{I:Opq}{K:Nat->Prop}{w0 w:World}{h h':Heap}
theorem bD1{s:Nat}{y:AV}{l:List AV}(e:yA s 0 y h=some l):l=[]:=by
 cases y<;>simp only[yA,reduceCtorEq]at e<;>first
  |(simpa using e)
  |grind
theorem cD9{ts:Array TypeId}{ty:TypeId}{x y a:AV}{vx vy:Value}(r:HR O I K w0 h w)(e:QQ P ts x y h=some (a,h'))(rx:VR O I x vx)(ry:VR O I y vy):
 Ok P O I K w0 w h (Builtin.copy_ ts ty #[vx,vy]) a h':=by
 unfold QQ at e;split at e
 .rename_i elem ht;simp[o8]at ht;obtain⟨t,h0,ht⟩:=ht;split at e
  .rename_i s lx ly hs hlx hly;simp[o8]at e;obtain⟨new,kL,e⟩:=e;obtain⟨us,u1,u2,u3⟩:=UK (P:=P) r kL ry;have hrun: ∀(base:Option Addr) (c:Nat),vx= .slice base lx c->(Builtin.copy_ ts ty #[vx,vy]).run P w=
    ((match base with|some a=>storeCells a us|none=>pure ():Sem Unit)>>=λ_=>pure (goInt (Nat.min ly lx:Nat))).run P w:=by
    intro base c hv;subst hv;have h3:=u3 w rfl;have h4:=cf2 (P:=P) hly ry w;cases base<;>simp only[Builtin.copy_,h0,Sem.run_bind,Z3 ht,fB hs,h4,h3,Result.andThen_ok,N2,List.getElem?_cons_zero,List.getElem?_cons_succ,Sem.run_pure]
   have nil:lx=0->us=[]:=by
    intro hz;subst hz;have:Nat.min ly 0=0:=Nat.min_zero ly;rw[this]at kL;rw[bD1 kL]at u1;exact u1
   cases x<;>simp only[cQ7,reduceCtorEq,o9,j0,A3]at e
   .obtain⟨rfl,rfl⟩:=e;exact⟨O,_,w,by rw[hrun none 0 (by grind[VR,ig])];rfl,rfl,r,.refl _ _⟩
   .obtain⟨h1,he,rfl,rfl⟩:=e;simp[ig,j0]at hlx;subst hlx;obtain⟨L,hL,rx⟩:=rx;obtain⟨p1,p2,p3⟩:=Fb (P:=P) r he hL u1;exact⟨O,_,_,by rw[hrun _ _ rx,Sem.run_bind,p1];rfl,rfl,p2,p3⟩
   .obtain⟨h1,he,rfl,rfl⟩:=e;simp[ig,j0]at hlx;subst hlx;obtain⟨L,c,hL,_,rx⟩:=rx;obtain⟨p1,p2,p3⟩:=Fb (P:=P) r he hL u1;exact⟨O,_,_,by rw[hrun _ _ rx,Sem.run_bind,p1];rfl,rfl,p2,p3⟩
   .obtain⟨rfl,rfl⟩:=e;simp[ig,j0]at hlx;subst hlx;obtain rfl:=nil rfl;obtain⟨L,ad,c,_,rx,_⟩:=rx;exact⟨O,_,w,by rw[hrun (some ad) c rx];rfl,rfl,r,.refl _ _⟩
   .obtain⟨rfl,rfl⟩:=e;simp[ig,j0]at hlx;subst hlx;obtain rfl:=nil rfl;obtain⟨ad,rx⟩:=rx;exact⟨O,_,w,by rw[hrun (some ad) 0 rx];rfl,rfl,r,.refl _ _⟩
  .cases e
 .cases e
theorem cE0(r:HR O I K w0 h w){elem l c s:Nat}{cs:List AV}{us:Array Value}(ho:cs.all AV.one=true)(rv:ct O I cs us.toList):
 ∃ac,VR ac I (.sl h.next 0 l c) (.slice (some ⟨w.heap.size,0,none⟩) l c)/\HR ac I K w0 (h.new (.cells elem 0 cs)) (w.alloc (.cells us elem))/\St h O (h.new (.cells elem 0 cs)) ac:=by
 have hl:=rv.length;simp at hl;obtain⟨p1,p2⟩:=Wo r elem cs us ho rv us.size (e9 _) (by omega);exact⟨_,⟨_,cq.add_self _ _ _,rfl⟩,p1,p2⟩
theorem bq6(f:Nat->Value):(Array.range 0).map f= #[]:=by grind
theorem b79{t n:Nat}{parts:List (Nat×AV)}{vparts:Array (Nat×Value)}{a:AV}(r:HR O I K w0 h w)(e:yz P t n parts h=some (a,h'))
 (hm:parts.map (·.1)=vparts.toList.map (·.1)) (hv:ct O I (parts.map (·.2)) (vparts.toList.map (·.2))):Ok P O I K w0 w h (Instr.buildSlice t n vparts) a h':=by
 unfold yz at e;split at e
 .rename_i elem ht;split at e
  .rename_i s z hs hz;obtain⟨hc,e⟩:=Z2 e;obtain⟨hc,c3⟩:=Z1 hc;obtain⟨c1,c2⟩:=Z1 hc;rw[Z4]at c1;rw[fc]at c2;rw[cW]at c3;split at e
   .rename_i cs hf;obtain⟨ho,e⟩:=Z2 e;obtain⟨rfl,rfl⟩:=e;obtain⟨zv,hzv,hzr⟩:=Ck hz;have rz:ct O I z.cells zv.cells.toList:=VR.cells' (vF hzv) (JW hzv);have hzs:zv.cells.size=s:=by have:=rz.length;grind
    have rr:=MX rz (by omega) n;rw[hzs]at rr;obtain⟨cells',e1,e2,e3⟩:=He (placeV:=λi=>some (i*s,s)) (λi x hx=>hx) parts vparts.toList _ cs _ hf rr hm hv;obtain⟨ac,q1,q2,q3⟩:=cE0 (s:=s) (elem:=elem) (l:=n) (c:=n) r ho e2;refine⟨ac,_,_,?_,q1,q2,q3⟩;have h1: ¬(n*s>2^24):=by omega
    by_cases hn0:n*s=0
    .simp[hzs,hn0]at e1;simp[Instr.buildSlice,Sem.run_bind,Z3 ht,fB hs,Result.andThen_ok,hn0,if_true,b9 (show¬(0>2^24) by omega),Sem.run_pure];rw[bq6]at e1⊢;rw[e1];rfl
    .simp[Instr.buildSlice,Sem.run_bind,Z3 ht,fB hs,Result.andThen_ok,b9 h1,b9 hn0,hzr,Sem.run_pure,hzs,e1];rfl
   .cases e
  .cases e
 .cases e
end Go.Ev
namespace Go.Ev
open Go
variable{es:List Ent}{a k:AV}{vk x y:Value}{m:List MapEntry}{kt:TypeId}
variable{P:Program}{O:cq}{I:Opq}{K:Nat->Prop}{w0 w:World}{h h':Heap}
def vD(w:World)(r:Nat)(o:Obj):World:={w with heap:=w.heap.setIfInBounds r o}
theorem HR.set1(r:HR O I K w0 h w)(b:Nat)(x0 x:Blk)(L:Loc)(o:Obj)(hg:h.get b=some x0)(hb:O b=some L)(hwm:h.wm<=b)(hx:BR O I L (some o) x):
 HR O I K w0 (h.put b (some x)) (vD w L.blk o)/\St h O (h.put b (some x)) O:=by
 have hlt:=r.lt b L hb;refine HR.upd r b x0 x L hg hb hwm (λi hi=>by simp[vD,Ne.symm hi]) (by simp[vD]) rfl rfl rfl rfl ?_;grind[vD]
theorem HR.map{b c:Nat}{L:Loc}(r:HR O I K w0 h w)(hg:h.get b=some (.map es c))(hb:O b=some L):
 ∃E,w.heap[L.blk]? =some (.map E c)/\ERs O I es E.toList:=r.blk b _ L hg hb
theorem lK{r c:Nat}{E:Array MapEntry}(hb:w.heap[r]? =some (.map E c)):(getObj r).run P w= .ok (.map E c) w:=by simp[getObj,Sem.run,hb]
theorem vX{r c:Nat}{E:Array MapEntry}(o:Obj)(hb:w.heap[r]? =some (.map E c)):(setObj r o).run P w= .ok () (vD w r o):=by grind[setObj,Sem.run,vD]
theorem cE1{t:TypeId}{cs:List AV}{xs:Array Value}{off:Nat}(e:kQ P t cs off=some a)(r:ct O I cs xs.toList)(w:World): ∃v,(part t xs off).run P w= .ok v w:=by
 obtain⟨v,_,hv⟩:=Cw e r;simp_all
theorem c30{t:TypeId}(hk:Oe P t=true)(em:Bool)(n:Nat)(v:Value)(w:World):(Instr.checkKey em (n+1) t v).run P w= .ok () w:=by
 unfold Oe at hk;unfold Instr.checkKey;split at hk<;>simp_all [Sem.run_bind,run_underlying]
theorem XM{α:Type}(g:α->PUnit->Sem (ForInStep PUnit))(w:World): ∀(l:List α),(∀f∈l,(g f ⟨⟩).run P w= .ok (.yield ⟨⟩) w)->(forIn l PUnit.unit g).run P w= .ok PUnit.unit w
 | [],_=>rfl
 |a::l,hg=>by
  rw[J4,Sem.run_bind,hg a (.head _)];exact XM g w l λf hf=>hg f (.tail _ hf)
theorem oS(e:sf P kt k=true)(rk:VR O I k vk)(em:Bool)(w:World):(Instr.checkKey em 10000 kt vk).run P w= .ok () w:=by
 unfold sf at e;split at e
 .trivial
 .trivial
 .trivial
 .rename_i fields cs hk;obtain⟨xs,rfl,rx⟩:=rk;have hf: ∀f∈fields.toList,(∃a,kQ P f.type cs f.offset=some a)/\Oe P f.type=true:=by
   intro f hf;have:=Q3.1 e f (by simpa using hf);simp_all[Z1,Q2]
  unfold Instr.checkKey;simp only[Sem.run_bind,Z3 hk,Result.andThen_ok];rw[<-Array.forIn_toList,XM]
  .rfl
  .intro f hm;obtain⟨⟨a,ha⟩,hb⟩:=hf f hm;obtain⟨v,hv⟩:=cE1 ha rx w;simp_all[c30]
 .cases e
theorem ba1{b:AV}{r:Bool}{d:TypeDesc}{n:Nat}(hd:P.underlying kt=some d)(e:kG P (n+1) kt a b=some r)(ra:VR O I a x)(rb:VR O I b y):
 Instr.sameNow d x y=none\/Instr.sameNow d x y=some r:=by
 have e':my P (kG P n) kt a b=some r:=e;unfold my at e';rw[hd]at e';cases d with
 |bool=>
  simp at e';split at e'
  .simp at e';subst e';subst ra rb;exact .inr rfl
  grind
 |int k=>
  simp at e';split at e'
  .subst ra rb;split at e'
   .rename_i hk;subst hk;simp at e';subst e';simp[Instr.sameNow,ui]
   .cases e'
  .subst ra rb;split at e'
   .rename_i hk;subst hk;replace e':=Z2 e';obtain⟨h1,h2⟩:=e';obtain rfl:=SX.beq_eq _ _ h1;simp at h2;subst h2;simp[Instr.sameNow]
   .cases e'
  grind
 |string=>
  simp at e';split at e'
  .simp at e';subst e';subst ra rb;simp[Instr.sameNow,EC,uQ]
  .subst ra rb;replace e':=Z2 e';obtain⟨h1,h2⟩:=e';obtain rfl:=SX.beq_eq _ _ h1;simp at h2;subst h2;simp[Instr.sameNow,EC]
  grind
 |_=>left;rfl
def FR(O:cq)(I:Opq)(es:List Ent)(m:List MapEntry)(i:Nat):Option (Nat×Ent)->Option (Nat×Value)->Prop
 |none,r=>r=none
 |some (j,e),r=> ∃k v,r=some (i+j,v)/\es[j]? =some e/\m[j]? =some ⟨k,v,e.born⟩/\VR O I e.key k/\VR O I e.val v
theorem cE2{d:TypeDesc}(hd:P.underlying kt=some d)(rk:VR O I k vk)(r:ERs O I es m): ∀(i i0:Nat) {x:Option (Nat×Ent)},nH P kt k es i=some x->
 ∃x' v',(x=none/\x'=none\/ ∃j e,x=some (i+j,e)/\x'=some (j,e))/\FR O I es m i0 x' v'/\(∀w,(Instr.findAsking kt vk m i0).run P w= .ok v' w)/\(Instr.findNow d vk m i0=none\/Instr.findNow d vk m i0=some v'):=by
 induction r with
 |nil=>
  intro i i0 x e;simp[nH,j0]at e;subst e;exact⟨none,none,.inl ⟨rfl,rfl⟩,rfl,λw=>rfl,.inr rfl⟩
 | @cons e es kk v m p q r ih=>
   intro i i0 x he;simp[nH]at he;split at he
   .rename_i heq;simp at he;subst he;have h1: ∀w,(Op.equal kt vk kk).run P w= .ok true w:=xK 10000 heq rk p;refine⟨some (0,e),some (i0,v),.inr ⟨0,e,rfl,rfl⟩,⟨kk,v,by simp,rfl,rfl,p,q⟩,λw=> ?_,?_⟩
    .simp[Instr.findAsking,h1]
    .rcases ba1 (n:=9999) hd heq rk p with hn|hn
     .simp[Instr.findNow,hn]
     .simp[Instr.findNow,hn]
   .rename_i heq;have h1: ∀w,(Op.equal kt vk kk).run P w= .ok false w:=xK 10000 heq rk p;obtain⟨x',v',hx,hf,ha,hn'⟩:=ih (i+1) (i0+1) he;have hx2: ∃x2,(x=none/\x2=none\/ ∃j e',x=some (i+j,e')/\x2=some (j,e'))/\FR O I (e::es) (⟨kk,v,e.born⟩::m) i0 x2 v':=by
     rcases hx with⟨rfl,rfl⟩|⟨j,e',rfl,rfl⟩
     .exact⟨none,.inl ⟨rfl,rfl⟩,hf⟩
     .obtain⟨k2,v2,e1,e2,e3,e4,e5⟩:=hf;exact⟨some (j+1,e'),.inr ⟨j+1,e',by rw[y5,E8 1 j],rfl⟩,k2,v2,by rw[e1,y5,E8 1 j],by trivial,by trivial,e4,e5⟩
    obtain⟨x2,hx2,hf2⟩:=hx2;refine⟨x2,v',hx2,hf2,λw=> ?_,?_⟩
    .simp[Instr.findAsking,h1,ha]
    .rcases ba1 (n:=9999) hd heq rk p with hn|hn
     .simp[Instr.findNow,hn]
     .simp[Instr.findNow,hn];exact hn'
   grind
theorem pf(hk:sf P kt k=true)(rk:VR O I k vk)(r:ERs O I es m){x:Option (Nat×Ent)}(e:nH P kt k es 0=some x):
 ∃v',FR O I es m 0 x v'/\ ∀w,(Instr.findKey kt vk m).run P w= .ok v' w:=by
 obtain⟨d,hd⟩: ∃d,P.underlying kt=some d:=by
  unfold sf at hk;grind
 obtain⟨x',v',hx,hf,ha,hn⟩:=cE2 hd rk r 0 0 e;have hxx:x=x':=by
  grind
 subst hxx;refine⟨v',hf,λw=> ?_⟩;unfold Instr.findKey;simp[Sem.run_bind,Z3 hd,Result.andThen_ok];rcases hn with hn|hn<;>rw[hn]
 .exact ha w
 .rfl
theorem RI{b:AV}(n:Nat)(e:Gc a b=true)(ra:VR O I a x)(rb:VR O I b y):Instr.sameBits n x y=true:=by
 cases a<;>cases b<;>simp only[Gc,s6,reduceCtorEq]at e<;>simp only[VR]at ra rb<;>subst ra rb
 .cases n<;>simpa[Instr.sameBits]using e
 .obtain⟨e1,e2⟩:=Z1 e;cases n<;>simp only[Instr.sameBits,e1,A9]<;>rw[<-ui];exact e2;exact e2
 grind[uQ,Instr.sameBits,EC]
theorem Wi(n:Nat): ∀{a b:List AV} {x y:List Value},Px a b=true->ct O I a x->ct O I b y->x.length=y.length/\(x.zip y).all (λp=>Instr.sameBits n p.1 p.2)=true
 | [],[],_,_,_,ra,rb=>by rw[ra,rb];simp_all
 |_::_,[],_,_,e,_,_=>by cases e
 | [],_::_,_,_,e,_,_=>by cases e
 |a::l,b::m,_,_,e,⟨v,vr,rfl,p,q⟩,⟨u,ur,rfl,s,t⟩=>by
  obtain⟨e1,e2⟩:=Z1 e;obtain⟨h1,h2⟩:=Wi n e2 q t;exact⟨by simp[h1],by simp[RI n e1 p s,h2]⟩
theorem cE3{b:AV}(e:JJ a b=true)(ra:VR O I a x)(rb:VR O I b y):Instr.sameBits 10000 x y=true:=by
 unfold JJ at e;split at e
 .obtain⟨xs,rfl,ra⟩:=ra;obtain⟨ys,rfl,rb⟩:=rb;obtain⟨h1,h2⟩:=Wi 9999 e ra rb;simp at h1;show(xs.size==ys.size&&(xs.toList.zip ys.toList).all λ(x,y)=>Instr.sameBits 9999 x y)=true;rw[h1];simpa using h2
 grind[RI]
theorem cE4{b:AV}(e:JJ a b=true)(ra:VR O I a x)(rb:VR O I b y)(w:World):(Instr.keyThatStays x y).run P w= .ok y w:=by
 simp[Instr.keyThatStays,cE3 e ra rb]
theorem ERs.set(r:ERs O I es m){v:AV}{vv:Value}(rk:VR O I k vk)(rv:VR O I v vv)(f:MapEntry->MapEntry):
 ∀(i:Nat) {e:Ent} {x:MapEntry},es[i]? =some e->m[i]? =some x->f x=⟨vk,vv,e.born⟩->ERs O I (Jj es i ⟨k,v,e.born⟩) (m.modify i f):=by
 induction r with
 |nil=>grind
 | @cons e' es kk v' m p q r ih=>
   intro i e x he hx hf;cases i with
   |zero=>
    simp_all;exact .cons rk rv r
   |succ i=>
    exact .cons p q (ih i he hx hf)
theorem ERs.del(r:ERs O I es m): ∀(i:Nat),ERs O I (MS es i) (m.eraseIdx i):=by
 induction r with
 |nil=>intro i;exact .nil
 | @cons e' es kk v' m p q r ih=>
   intro i;cases i with
   |zero=>exact r
   |succ i=>exact .cons p q (ih i)
theorem ERs.push(r:ERs O I es m){v:AV}{vv:Value}(rk:VR O I k vk)(rv:VR O I v vv)(b:Nat):ERs O I (es++[⟨k,v,b⟩]) (m++[⟨vk,vv,b⟩]):=by
 induction r with
 |nil=>exact .cons rk rv .nil
 |cons p q r ih=>exact .cons p q ih
end Go.Ev
namespace Go.Ev
open Go
variable{m:AV}{vm vk:Value}{t:TypeId}
variable{P:Program}{O:cq}{I:Opq}{K:Nat->Prop}{w0 w:World}{h h':Heap}
def NN(P:Program)(O:cq)(I:Opq)(K:Nat->Prop)(w0 w:World)(h:Heap)(m:Sem Unit)(h':Heap):Prop:=
 ∃w',m.run P w= .ok () w'/\HR O I K w0 h' w'/\St h O h' O
theorem cf6{es:List Ent}(r:HR O I K w0 h w)(e:VH m h=some es)(rm:VR O I m vm):
 (vm= .map none/\es=[])\/ ∃b c E,vm= .map (some b)/\w.heap[b]? =some (.map E c)/\ERs O I es E.toList:=by
 unfold VH at e;split at e
 .trivial
 .split at e
  .rename_i b es' c hg;obtain⟨L,hL,rfl⟩:=rm;obtain⟨E,h1,h2⟩:=r.map hg hL;grind
  .cases e
 .cases e
theorem FG{z:AV}(e:jk P t=some z): ∃v,(∀(O:cq) (I:Opq),VR O I z v)/\ ∀w,(zeroValue t).run P w= .ok v w:=by
 obtain⟨v,h1,h2⟩:=Ck e;simp_all[vF]
theorem c31{k a:AV}{ok:Bool}(r:HR O I K w0 h w)(e:NA P t m k ok h=some a)(rm:VR O I m vm)(rk:VR O I k vk):
 ∃v,VR O I a v/\(Instr.lookup t vm vk ok).run P w= .ok v w:=by
 unfold NA at e;split at e
 .rename_i kt et ht;obtain⟨hk,e⟩:=Z2 e;split at e
  .cases e
  .rename_i es hes;have main: ∀(E:Array MapEntry),ERs O I es E.toList-> ∃v,VR O I a v/\((do
    Instr.checkKey E.isEmpty 10000 kt vk
    let (v,o) <-match<-Instr.findKey kt vk E.toList with
     |some (_,v)=>pure (v,true)
     |none=>pure (<-zeroValue et,false)
    pure (if ok then .tuple #[v,.bool o]else v):Sem Value)).run P w= .ok v w:=by
    intro E hE;split at e
    .cases e
    .rename_i j en hf;simp at e;subst e;obtain⟨v',hv',hrun⟩:=pf hk rk hE hf;obtain⟨k2,v2,e1,e2,e3,e4,e5⟩:=hv';subst e1;refine⟨if ok then .tuple #[v2,.bool true]else v2,?_,?_⟩
     .cases ok
      .exact e5
      .exact⟨_,rfl,.cons e5 (.one rfl)⟩
     grind[Sem.run_bind,oS,Result.andThen_ok,Sem.run_pure]
    .rename_i hf;simp at e;obtain⟨z,hz,rfl⟩:=e;obtain⟨v',hv',hrun⟩:=pf hk rk hE hf;subst hv';obtain⟨zv,z1,z2⟩:=FG hz;refine⟨if ok then .tuple #[zv,.bool false]else zv,?_,?_⟩
     .cases ok
      .grind
      .exact⟨_,rfl,.cons (z1 _ _) (.one rfl)⟩
     .simp[Sem.run_bind,oS hk rk,Result.andThen_ok,hrun,Sem.run_pure,z2]
   rcases cf6 r hes rm with⟨rfl,rfl⟩|⟨b,c,E,rfl,hb,hE⟩
   .obtain⟨v,v1,v2⟩:=main #[] .nil;simp only[Instr.lookup,Sem.run_bind,Z3 ht,Result.andThen_ok,Sem.run_pure];grind[Sem.run_bind]
   .simp only[Instr.lookup,Sem.run_bind,Z3 ht,Result.andThen_ok,Sem.run_pure,lK hb];grind[Sem.run_bind]
 .cases e
theorem be3{k v:AV}{vv:Value}(r:HR O I K w0 h w)(e:Nx P t m k v h=some h')(rm:VR O I m vm)(rk:VR O I k vk)(rv:VR O I v vv):
 NN P O I K w0 w h (Instr.mapUpdate t vm vk vv) h':=by
 unfold Nx at e;split at e
 .rename_i kt et b ht;replace e:=Z2 e;obtain⟨hc,e⟩:=e;obtain⟨hk,hwm⟩:=Z1 hc;rw[cW]at hwm;split at e
  .rename_i es c hg;obtain⟨L,hL,rfl⟩:=rm;obtain⟨E,h1,h2⟩:=r.map hg hL;split at e
   .cases e
   .rename_i i en hf;replace e:=Z2 e;obtain⟨hq,e⟩:=e;simp at e;subst e;obtain⟨v',hv',hrun⟩:=pf hk rk h2 hf;obtain⟨k2,v2,e1,e2,e3,e4,e5⟩:=hv';subst e1;have he3:E[i]? =some ⟨k2,v2,en.born⟩:=by grind
    obtain⟨p1,p2⟩:=r.set1 b _ (.map (Jj es i ⟨k,v,en.born⟩) c) L (.map (E.modify i λx=>{x with key:=vk,val:=vv}) c) hg hL hwm
     ⟨_,rfl,by rw[Q5];exact h2.set rk rv _ i e2 e3 rfl⟩
    refine⟨_,?_,p1,p2⟩;simp[Instr.mapUpdate,Sem.run_bind,Z3 ht,Result.andThen_ok,lK h1,oS hk rk,hrun,m9,he3,Option.map_some,Option.getD_some,cE4 hq e4 rk,vX _ h1]
   .rename_i hf;simp at e;subst e;obtain⟨v',hv',hrun⟩:=pf hk rk h2 hf;subst hv';obtain⟨p1,p2⟩:=r.set1 b _ (.map (es++[⟨k,v,c⟩]) (c+1)) L (.map (E.push ⟨vk,vv,c⟩) (c+1)) hg hL hwm
     ⟨_,rfl,by rw[N3];exact h2.push rk rv c⟩
    refine⟨_,?_,p1,p2⟩;simp[Instr.mapUpdate,Sem.run_bind,Z3 ht,Result.andThen_ok,lK h1,oS hk rk,hrun,vX _ h1]
  .cases e
 .cases e
theorem bD2{b:Nat}{es:List Ent}{m:List MapEntry}(r:ERs O I es m): ∀(i0:Nat) {i:Nat} {e:Ent},Jl b es i0=some (i,e)->
 ∃j k v,i=i0+j/\es[j]? =some e/\m[j]? =some ⟨k,v,e.born⟩/\VR O I e.key k/\VR O I e.val v/\e.born=b/\(∀q:MapEntry->Bool,(∀x,q x=true↔x.born=b)->m.findIdx? q=some j/\m.find? q=some ⟨k,v,e.born⟩):=by
 induction r with
 |nil=>intro i0 i e he;trivial
 | @cons e' es kk v' m p q r ih=>
   intro i0 i e he;simp[Jl]at he;cases hb:Nat.beq e'.born b with
   |true=>
    rw[hb]at he;obtain⟨rfl,rfl⟩:=he;rw[Z4]at hb;refine⟨0,kk,v',rfl,rfl,rfl,p,q,hb,λg hg=> ?_⟩;have:g ⟨kk,v',e'.born⟩=true:=(hg _).2 hb;exact⟨by simp[List.findIdx?_cons,this],by simp[List.find?_cons,this]⟩
   |false=>
    rw[hb]at he;obtain⟨j,k,v,e1,e2,e3,e4,e5,e6,e7⟩:=ih (i0+1) he;refine⟨j+1,k,v,by omega,by trivial,by trivial,e4,e5,e6,λg hg=> ?_⟩;obtain⟨h1,h2⟩:=e7 g hg;have:g ⟨kk,v',e'.born⟩=false:=by
     cases hh:g ⟨kk,v',e'.born⟩with
     |false=>rfl
     |true=>have:=(hg _).1 hh;rw[Z4.2 this]at hb;cases hb
    exact⟨by simp[List.findIdx?_cons,this,h1],by simp[List.find?_cons,this,h2]⟩
theorem c32{ts:Array TypeId}{ty:TypeId}{k:AV}(h0:ts[0]? =some t)(r:HR O I K w0 h w)(e:SV P t m k h=some h')(rm:VR O I m vm)(rk:VR O I k vk):
 ∃w',(Builtin.delete_ ts ty #[vm,vk]).run P w= .ok (.tuple #[]) w'/\HR O I K w0 h' w'/\St h O h' O:=by
 unfold SV at e;split at e
 .rename_i kt et b ht;replace e:=Z2 e;obtain⟨hc,e⟩:=e;obtain⟨hk,hwm⟩:=Z1 hc;rw[cW]at hwm;split at e
  .rename_i es c hg;obtain⟨L,hL,rfl⟩:=rm;obtain⟨E,h1,h2⟩:=r.map hg hL;split at e
   .cases e
   .rename_i i en hf;simp at e;subst e;obtain⟨v',hv',hrun⟩:=pf hk rk h2 hf;obtain⟨k2,v2,e1,e2,e3,e4,e5⟩:=hv';subst e1;have hi:i<E.size:=by
     grind
    obtain⟨p1,p2⟩:=r.set1 b _ (.map (MS es i) c) L (.map (E.eraseIdxIfInBounds i) c) hg hL hwm
     ⟨_,rfl,by rw[Array.eraseIdxIfInBounds,dif_pos hi,Q6];exact h2.del i⟩
    refine⟨_,?_,p1,p2⟩;simp[Builtin.delete_,h0,Z3 ht,lK h1,oS hk rk,hrun,vX _ h1]
   trivial
  .cases e
 .cases e
end Go.Ev
