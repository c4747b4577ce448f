import Derived.Test.YtbfbcanipfnfeaaE2
import Derived.RangeFuncLeaves
import Derived.WalkKit
set_option linter.unusedVariables false
namespace Go.Ev
open Go
theorem b98{a b c d:Prop}(f:a→c)(g:b→d)(h:a∨b):c∨d:=by
 cases h with
 |inl h=>exact .inl (f h)
 |inr h=>exact .inr (g h)
theorem a40{a b:Nat}(h:a<b):Nat.blt a b=true:=by simpa using h
theorem a89{a b:Nat}(h: ¬a<b):Nat.blt a b=false:=by
 cases e:Nat.blt a b with
 |false=>rfl
 |true=>exact absurd (by simpa using e) h
theorem N9{a b:Nat}:Nat.blt a b=true↔a<b:=by simp
theorem N1{a b:Nat}:Nat.ble a b=true↔a≤b:=by simp
theorem M8{a b:Nat}:Nat.beq a b=true↔a=b:=by simp
theorem bH3(i j:Nat)(hi:i<16)(hj:j<16)(α:Type)(x:α)(t:P16 α):
 (cb4 i).g α ((cb4 j).s α x t)=if i=j then x else(cb4 i).g α t:=by
 have hi':i=0∨i=1∨i=2∨i=3∨i=4∨i=5∨i=6∨i=7∨i=8∨i=9∨i=10∨i=11∨i=12∨i=13∨i=14∨i=15:=by omega
 have hj':j=0∨j=1∨j=2∨j=3∨j=4∨j=5∨j=6∨j=7∨j=8∨j=9∨j=10∨j=11∨j=12∨j=13∨j=14∨j=15:=by omega
 clear hi hj
 rcases hi' with rfl|rfl|rfl|rfl|rfl|rfl|rfl|rfl|rfl|rfl|rfl|rfl|rfl|rfl|rfl|rfl<;>
 rcases hj' with rfl|rfl|rfl|rfl|rfl|rfl|rfl|rfl|rfl|rfl|rfl|rfl|rfl|rfl|rfl|rfl<;>rfl
theorem aj2(i:Nat)(hi:i<16)(α:Type)(x:α):(cb4 i).g α (P16.const x)=x:=by
 have hi':i=0∨i=1∨i=2∨i=3∨i=4∨i=5∨i=6∨i=7∨i=8∨i=9∨i=10∨i=11∨i=12∨i=13∨i=14∨i=15:=by omega
 clear hi
 rcases hi' with rfl|rfl|rfl|rfl|rfl|rfl|rfl|rfl|rfl|rfl|rfl|rfl|rfl|rfl|rfl|rfl<;>rfl
theorem TF.get_empty(n:Nat):TF.get TF.empty n= .undef:=by
 unfold TF.get cQ2
 by_cases h:n<256
 ·rw[a40 h]
  simp only[cond_true,d64,TF.empty,dc5]
  rw[aj2 _ (by omega),aj2 _ (by omega)]
 ·rw[a89 h];rfl
theorem TF.get_set(t:TF)(m n:Nat)(v:AV)(hm:m<256):(TF.set t m v).get n=if n=m then v else t.get n:=by
 unfold TF.get TF.set cQ2
 rw[a40 hm]
 by_cases h:n<256
 ·rw[a40 h]
  simp only[cond_true,d64]
  rw[bH3 _ _ (by omega) (by omega)]
  by_cases h1:n/16=m/16
  ·rw[if_pos h1,bH3 _ _ (by omega) (by omega)]
   by_cases h2:n % 16=m % 16
   ·rw[if_pos h2,if_pos (by omega)]
   ·rw[if_neg h2,if_neg (by omega),h1]
  ·rw[if_neg h1,if_neg (by omega)]
 ·rw[a89 h]
  simp only[cond_false,dc4]
  rw[if_neg (by omega)]
theorem cU5(b b':Nat)(x:Option Blk)(t:TH):(cc1 b').g ((cc1 b).s x t)=if b'=b then(if b<65536 then x else none)else(cc1 b').g t:=by
 unfold cc1
 by_cases h:b<65536
 ·rw[show(!(Nat.blt b 65536))=false by rw[a40 h];rfl,if_pos h]
  by_cases h':b'<65536
  ·rw[show(!(Nat.blt b' 65536))=false by rw[a40 h'];rfl]
   simp only[cond_false,d65]
   rw[bH3 _ _ (by omega) (by omega)]
   by_cases h1:b'/4096=b/4096
   ·rw[if_pos h1,bH3 _ _ (by omega) (by omega)]
    by_cases h2:b'/256 % 16=b/256 % 16
    ·rw[if_pos h2,bH3 _ _ (by omega) (by omega)]
     by_cases h3:b'/16 % 16=b/16 % 16
     ·rw[if_pos h3,bH3 _ _ (by omega) (by omega)]
      by_cases h4:b' % 16=b % 16
      ·rw[if_pos h4,if_pos (by omega)]
      ·rw[if_neg h4,if_neg (by omega),h1,h2,h3]
     ·rw[if_neg h3,if_neg (by omega),h1,h2]
    ·rw[if_neg h2,if_neg (by omega),h1]
   ·rw[if_neg h1,if_neg (by omega)]
  ·rw[show(!(Nat.blt b' 65536))=true by rw[a89 h'];rfl]
   simp only[cond_true,d26]
   rw[if_neg (by omega)]
 ·rw[show(!(Nat.blt b 65536))=true by rw[a89 h];rfl,if_neg h]
  simp only[cond_true,d26]
  by_cases e:b'=b
  ·subst e
   rw[show(!(Nat.blt b' 65536))=true by rw[a89 h];rfl];simp
  ·rw[if_neg e]
theorem Heap.get_put(h:Heap)(b b':Nat)(x:Option Blk):(h.put b x).get b'=if b'=b then(if b<65536 then x else none)else h.get b':=by
 cases h;exact cU5 b b' x _
theorem Heap.get_new(h:Heap)(b':Nat)(x:Blk):(h.new x).get b'=if b'=h.next then(if h.next<65536 then some x else none)else h.get b':=by
 cases h;exact cU5 _ b' (some x) _
@[simp]theorem Heap.next_put(h:Heap)(b:Nat)(x:Option Blk):(h.put b x).next=h.next:=rfl
@[simp]theorem Heap.wm_put(h:Heap)(b:Nat)(x:Option Blk):(h.put b x).wm=h.wm:=rfl
@[simp]theorem Heap.next_new(h:Heap)(x:Blk):(h.new x).next=h.next+1:=rfl
@[simp]theorem Heap.wm_new(h:Heap)(x:Blk):(h.new x).wm=h.wm:=rfl
theorem Heap.get_lim(h:Heap)(b:Nat)(x:Blk)(e:h.get b=some x):b<65536:=by
 cases h
 simp only[Heap.get,a35,cc1]at e
 by_cases hb:b<65536
 ·exact hb
 ·rw[show(!(Nat.blt b 65536))=true by rw[a89 hb];rfl]at e
  simp[d26]at e
theorem Heap.get_empty(b:Nat):Heap.empty.get b=none:=by
 simp only[Heap.get,Heap.empty,a35,cc1]
 by_cases hb:b<65536
 ·rw[show(!(Nat.blt b 65536))=false by rw[a40 hb];rfl]
  simp only[cond_false,d65,cc3,cc2,cQ3]
  rw[aj2 _ (by omega),aj2 _ (by omega),aj2 _ (by omega),aj2 _ (by omega)]
 ·rw[show(!(Nat.blt b 65536))=true by rw[a89 hb];rfl];rfl
structure Loc where
 blk:Nat
 off:Nat
 ext:Nat
abbrev Bij:=Nat→Option Loc
structure Opq where
 v:Nat→Value
 w:Nat→Val
 f:Nat→List Val→Val
 one: ∀n,(v n).oneCell'=true
 fix:TypeId→Bool
 gh:Nat→Option Obj
noncomputable def R0(x y:List UInt8):Bool:=ltB x y
def arI(op:BinOp)(k:IntKind)(x y:Int):Int:=match op with
 | .add=>k.wrap (x+y)
 | .sub=>k.wrap (x-y)
 | .mul=>k.wrap (x*y)
 | .quo=>k.wrap (x.tdiv y)
 | .rem=>x.tmod y
 | .shl=>k.wrap (x*2^(min y.toNat k.bits))
 | .shr=>x.fdiv (2^(min y.toNat k.bits))
 | .and=>k.wrap ((BitVec.ofInt k.bits x&&&BitVec.ofInt k.bits y).toNat)
 | .or=>k.wrap ((BitVec.ofInt k.bits x|||BitVec.ofInt k.bits y).toNat)
 | .xor=>k.wrap ((BitVec.ofInt k.bits x^^^BitVec.ofInt k.bits y).toNat)
 | .andNot=>k.wrap ((BitVec.ofInt k.bits x&&& ~~~(BitVec.ofInt k.bits y)).toNat)
 |_=>0
def b02(op:BinOp)(x y:Int):Bool:=match op with
 | .eql=>decide (x=y)
 | .neq=> !decide (x=y)
 | .lss=>decide (x<y)
 | .leq=>decide (x≤y)
 | .gtr=>decide (y<x)
 | .geq=>decide (y≤x)
 |_=>false
noncomputable def bH4(op:BinOp)(x y:List UInt8):Bool:=match op with
 | .eql=>decide (x=y)
 | .neq=> !decide (x=y)
 | .lss=>R0 x y
 | .leq=> !R0 y x
 | .gtr=>R0 y x
 | .geq=> !R0 x y
 |_=>false
def unI(op:UnOp)(k:IntKind)(x:Int):Int:=match op with
 | .neg=>k.wrap (0-x)
 | .xor=>k.wrap ((BitVec.ofInt k.bits (if k.signed then-1 else k.max)^^^BitVec.ofInt k.bits x).toNat)
 |_=>0
def Q5(l:List Val)(i:Int)(j:Int):Val:=(l.getD i.toNat (.vl [])).toL.getD j.toNat default
def ceq(c:CT)(x y:Val):Bool:=match c with
 | .int _=>decide (x.toI=y.toI)
 | .str=>decide (x.toS=y.toS)
 | .bool=>x.toB==y.toB
def cz2(r k:Val):List CT→Nat→Bool
 | [],_=>true
 |c::cs,j=>ceq c (k.toL.getD j default) (r.toL.getD j default)&&cz2 r k cs (j+1)
def keq(ks:List CT)(r k:Val):Bool:=cz2 r k ks 0
noncomputable def Q9:Prim→List Val→Val
 | .ar op k,[a,b]=> .vi (arI op k a.toI b.toI)
 | .cmp op,[a,b]=> .vb (b02 op a.toI b.toI)
 | .scmp op,[a,b]=> .vb (bH4 op a.toS b.toS)
 | .cat,[a,b]=> .vs (a.toS++b.toS)
 | .not,[a]=> .vb (!a.toB)
 | .and,[a,b]=> .vb (a.toB&&b.toB)
 | .or,[a,b]=> .vb (a.toB||b.toB)
 | .beq,[a,b]=> .vb (a.toB==b.toB)
 | .ite,[a,b,c]=>bif a.toB then b else c
 | .un op k,[a]=> .vi (unI op k a.toI)
 | .conv k,[a]=> .vi (k.wrap a.toI)
 | .slen,[a]=> .vi a.toS.length
 | .sat,[a,i]=> .vi (a.toS.getD i.toI.toNat 0).toNat
 | .ssub,[a,i,j]=> .vs ((a.toS.drop i.toI.toNat).take (j.toI-i.toI).toNat)
 | .llen,[a]=> .vi a.toL.length
 | .lget,[a,i,j]=>Q5 a.toL i.toI j.toI
 | .lset,[a,i,r]=> .vl (a.toL.set i.toI.toNat r)
 | .lcat,[a,b]=> .vl (a.toL++b.toL)
 | .lsub,[a,i,j]=> .vl ((a.toL.drop i.toI.toNat).take (j.toI-i.toI).toNat)
 | .row,l=> .vl l
 | .imin,[a,b]=> .vi (min a.toI b.toI)
 | .iadd,[a,b]=> .vi (a.toI+b.toI)
 | .isub,[a,b]=> .vi (a.toI-b.toI)
 | .imax,[a,b]=> .vi (max a.toI b.toI)
 | .lrep,[n,r]=> .vl (List.replicate n.toI.toNat r)
 | .scnt,[a,c]=> .vi (aG0 c.toI.toNat a.toS:Nat)
 | .sidx,[a,c]=> .vi (b80 c.toI.toNat a.toS)
 | .sbytes,[a]=> .vl (a.toS.map fun b=> .vl [.vi b.toNat])
 | .mfind ks,[l,k]=> .vi (l.toL.findIdx fun r=>keq ks r k:Nat)
 | .mdel ks,[l,k]=> .vl (l.toL.eraseIdx (l.toL.findIdx fun r=>keq ks r k))
 | .bok,[a]=> .vb (a.toL.all fun r=>decide (0≤(r.toL.getD 0 default).toI)&&decide ((r.toL.getD 0 default).toI<256))
 | .bstr,[a]=> .vs (a.toL.map fun r=>UInt8.ofNat (r.toL.getD 0 default).toI.toNat)
 |_,_=> .vb false
mutual
noncomputable def den(ω:Opq):SX→Val
 | .ci n=> .vi n
 | .cs l=> .vs l
 | .cb x=> .vb x
 | .va n=>ω.w n
 | .op p l=>Q9 p (N2 ω l)
 | .app f l=>ω.f f (N2 ω l)
noncomputable def N2(ω:Opq):List SX→List Val
 | []=>[]
 |a::r=>den ω a::N2 ω r
end
noncomputable def dI(ω:Opq)(e:SX):Int:=(den ω e).toI
noncomputable def dS(ω:Opq)(e:SX):List UInt8:=(den ω e).toS
noncomputable def dB(ω:Opq)(e:SX):Bool:=(den ω e).toB
noncomputable def dL(ω:Opq)(e:SX):List Val:=(den ω e).toL
def Opq.upd(ω:Opq)(v0:Nat)(l:List Val):Opq:=⟨ω.v,fun n=>if v0≤n then l.getD (n-v0) (.vb false)else ω.w n,ω.f,ω.one,ω.fix,ω.gh⟩
inductive Iter (step:List Val→Option (Nat×List Val)):List Val→Nat→List Val→Prop where
 |out {vs p:List Val} {i:Nat}:step vs=some (i+1,p)→Iter step vs i p
 |more {vs vs' p:List Val} {i:Nat}:step vs=some (0,vs')→Iter step vs' i p→Iter step vs i p
theorem Iter.uniq{step:List Val→Option (Nat×List Val)}{vs:List Val}{i j:Nat}{p q:List Val}(a:Iter step vs i p)(b:Iter step vs j q):i=j∧p=q:=by
 induction a with
 |out h=>
  cases b with
  |out h'=>rw[h]at h';simp at h';exact h'
  |more h' _=>rw[h]at h';simp at h'
 |more h _ ih=>
  cases b with
  |out h'=>rw[h]at h';simp at h'
  |more h' k=>rw[h]at h';simp at h';subst h';exact ih k
open Classical in
noncomputable def P5(step:List Val→Option (Nat×List Val))(vs:List Val):Option (Nat×List Val):=
 if h: ∃r:Nat×List Val,Iter step vs r.1 r.2 then some (Classical.choose h)else none
theorem U3{step:List Val→Option (Nat×List Val)}{vs:List Val}{i:Nat}{p:List Val}:P5 step vs=some (i,p)↔Iter step vs i p:=by
 unfold P5
 constructor
 ·intro h
  split at h
  ·rename_i hh
   have:=Classical.choose_spec hh
   simp only[a8]at h
   rw[h]at this;exact this
  ·cases h
 ·intro h
  have hh: ∃r:Nat×List Val,Iter step vs r.1 r.2:=⟨(i,p),h⟩
  rw[dif_pos hh]
  have:=(Classical.choose_spec hh).uniq h
  congr 1
  exact Prod.ext this.1 this.2
def S6(r:Nat×List Val):Val:= .vl [.vl [.vi r.1],.vl r.2]
def aS6(step:List Val→Option (Nat×List Val)):List Nat→List Val→Option (List Val)
 | [],s=>some s
 |i::r,[a,b]=>match step [a,b,.vi i]with
  |some (0,s')=>aS6 step r s'
  |_=>none
 |_::_,_=>none
def cU6(step:List Val→Option (Nat×List Val))(n:Nat)(s:List Val)(D:List Val):Prop:=
 aS6 step (List.range n) s=some [.vi D.length,.vl D]∧ ∀p:List Nat,p.Perm (List.range n)→ ∃D':List Val,aS6 step p s=some [.vi D'.length,.vl D']∧D'.Perm D
open Classical in
mutual
noncomputable def N0:VT→Opq→Option (Nat×List Val)
 | .bad,_=>none
 | .ite e a b,ω=>if dB ω e then N0 a ω else N0 b ω
 | .need e x,ω=>if dB ω e then N0 x ω else none
 | .ret i out,ω=>some (i,N2 ω out)
 | .loop hd body ks,ω=>match P5 (fun vs=>N0 body (ω.upd hd.v0 vs)) (N2 ω hd.s0)with
   |some r=>if ω.f hd.id (N2 ω (hd.s0++hd.fv))=S6 r then R2 ks r.1 ω else none
   |none=>none
 | .both a b,ω=>if N0 a ω=N0 b ω then N0 a ω else none
 | .mloop hd l body ks,ω=>if∃D,cU6 (fun vs=>N0 body (ω.upd hd.v0 vs)) (dL ω l).length (N2 ω hd.s0) D∧ω.f hd.id (N2 ω (hd.s0++hd.fv))=S6 (0,[.vi D.length,.vl D])then R2 ks 0 ω else none
noncomputable def R2:List VT→Nat→Opq→Option (Nat×List Val)
 | [],_,_=>none
 |k::_,0,ω=>N0 k ω
 |_::r,n+1,ω=>R2 r n ω
end
theorem bU2: ∀{a b:List UInt8},d24 a b=true→a=b
 | [],[],_=>rfl
 |a::x,b::y,h=>by
  simp only[d24]at h
  cases hc:Nat.beq a.toNat b.toNat with
  |false=>rw[hc]at h;cases h
  |true=>
   rw[hc]at h
   have:a=b:=UInt8.toNat_inj.1 (by simpa using hc)
   rw[this,bU2 h]
 | [],_::_,h=>by cases h
 |_::_,[],h=>by cases h
theorem cz3: ∀{a b:Int},d25 a b=true→a=b
 | .ofNat a,.ofNat b,h=>by simp only[d25]at h;rw[show a=b by simpa using h]
 | .negSucc a,.negSucc b,h=>by simp only[d25]at h;rw[show a=b by simpa using h]
 | .ofNat _,.negSucc _,h=>by cases h
 | .negSucc _,.ofNat _,h=>by cases h
mutual
theorem SX.beq_eq: ∀(a b:SX),SX.beq a b=true→a=b
 | .ci a,b,h=>by cases b<;>simp[SX.beq]at h;rw[cz3 h]
 | .cs a,b,h=>by cases b<;>simp[SX.beq]at h;rw[bU2 h]
 | .cb a,b,h=>by cases b<;>simp[SX.beq]at h;rw[h]
 | .va a,b,h=>by cases b<;>simp[SX.beq]at h;rw[h]
 | .op p a,b,h=>by
   cases b<;>simp[SX.beq]at h
   obtain⟨rfl,h⟩:=h
   rw[SX.beqs_eq a _ h]
 | .app p a,b,h=>by
   cases b<;>simp[SX.beq]at h
   obtain⟨rfl,h⟩:=h
   rw[SX.beqs_eq a _ h]
theorem SX.beqs_eq: ∀(a b:List SX),SX.beqs a b=true→a=b
 | [],[],_=>rfl
 | [],_::_,h=>by simp[SX.beqs]at h
 |_::_,[],h=>by simp[SX.beqs]at h
 |a::x,b::y,h=>by
  simp only[SX.beqs,d6]at h
  rw[SX.beq_eq a b h.1,SX.beqs_eq x y h.2]
end
mutual
def VR(β:Bij)(ω:Opq):AV→Value→Prop
 | .bool b,v=>v= .bool b
 | .int k n,v=>v= .int k n
 | .str s,v=>v= .string ⟨s.toArray⟩
 | .nilp,v=>v= .pointer none
 | .ptr b o,v=> ∃L,β b=some L∧v= .pointer (some ⟨L.blk,L.off+o,none⟩)
 | .glob g,v=>v= .pointer (some ⟨g,0,none⟩)
 | .nils,v=>v= .slice none 0 0
 | .sl b o len cap,v=> ∃L,β b=some L∧v= .slice (some ⟨L.blk,L.off+o,none⟩) len cap
 | .us b o len sz,v=> ∃L cap,β b=some L∧o+cap*sz=L.ext∧v= .slice (some ⟨L.blk,L.off+o,none⟩) len cap
 | .es b o sz,v=> ∃L a cap,β b=some L∧v= .slice (some a) 0 cap∧(cap=0∨a=⟨L.blk,L.off+o,none⟩∧o+cap*sz=L.ext)
 | .es0,v=> ∃a,v= .slice (some a) 0 0
 | .nilm,v=>v= .map none
 | .map r,v=> ∃L,β r=some L∧v= .map (some L.blk)
 | .nilf,v=>v= .nilFunc
 | .func fn a b,v=>(∀l,fn≠ .yield l)∧ ∃x y,v= .func fn x y∧VRs β ω a x.toList∧VRs β ω b y.toList
 | .yield l,v=> ∃L,β l=some L∧v= .func (.yield L.blk) #[] #[]
 | .nili,v=>v= .nilIface
 | .iface t x,v=> ∃y,v= .iface t y∧VR β ω x y
 | .agg cs,v=> ∃xs,v= .agg xs∧VRs β ω cs xs.toList
 | .tup cs,v=> ∃xs,v= .tuple xs∧VRs β ω cs xs.toList
 | .opq n,v=>v=ω.v n
 | .oint k e,v=>v= .int k (dI ω e)
 | .ostr e,v=>v= .string ⟨(dS ω e).toArray⟩
 | .obool e,v=>v= .bool (dB ω e)
 | .osl b off len sz,v=>(∃L cap a,β b=some L∧v= .slice (some a) (dI ω len).toNat cap∧(dI ω len).toNat≤cap∧(0<dI ω len→a=⟨L.blk,L.off+(dI ω off).toNat*sz,none⟩))∨ ∃a cap,v= .slice a 0 cap∧(a=none→cap=0)∧dI ω len=0
 | .optr b idx j sz,v=> ∃L,β b=some L∧v= .pointer (some ⟨L.blk,L.off+(dI ω idx).toNat*sz+j,none⟩)
 | .ous b len sz,v=>(∃L cap,β b=some L∧cap*sz=L.ext∧v= .slice (some ⟨L.blk,L.off,none⟩) (dI ω len).toNat cap∧(dI ω len).toNat≤cap)∨v= .slice none 0 0∧dI ω len=0
 | .atl n,v=> ∃m:Int,v= .int .i64 m∧(n:Int)≤m
 | .any,_=>True
def VRs(β:Bij)(ω:Opq):List AV→List Value→Prop
 | [],vs=>vs=[]
 |a::r,vs=> ∃v vr,vs=v::vr∧VR β ω a v∧VRs β ω r vr
end
def Le(β β':Bij):Prop:= ∀b L,β b=some L→β' b=some L
theorem Le.refl(β:Bij):Le β β:=fun _ _ h=>h
theorem Le.trans{a b c:Bij}(h:Le a b)(k:Le b c):Le a c:=fun x L e=>k x L (h x L e)
mutual
theorem VR.mono{β β':Bij}{ω:Opq}(hl:Le β β'): ∀(a:AV) (v:Value),VR β ω a v→VR β' ω a v
 | .bool b,v,h=>h
 | .int k n,v,h=>h
 | .str s,v,h=>h
 | .nilp,v,h=>h
 | .ptr b o,v,h=>let ⟨L,e,x⟩:=h;⟨L,hl _ _ e,x⟩
 | .glob g,v,h=>h
 | .nils,v,h=>h
 | .sl b o len cap,v,h=>let ⟨L,e,x⟩:=h;⟨L,hl _ _ e,x⟩
 | .us b o len sz,v,h=>let ⟨L,c,e,x⟩:=h;⟨L,c,hl _ _ e,x⟩
 | .es b o sz,v,h=>let ⟨L,a,c,e,x⟩:=h;⟨L,a,c,hl _ _ e,x⟩
 | .es0,v,h=>h
 | .nilm,v,h=>h
 | .map r,v,h=>let ⟨L,e,x⟩:=h;⟨L,hl _ _ e,x⟩
 | .nilf,v,h=>h
 | .func fn a b,v,h=>let ⟨n,x,y,e,p,q⟩:=h;⟨n,x,y,e,VRs.mono hl a _ p,VRs.mono hl b _ q⟩
 | .yield l,v,h=>let ⟨L,e,x⟩:=h;⟨L,hl _ _ e,x⟩
 | .nili,v,h=>h
 | .iface t x,v,h=>let ⟨y,e,p⟩:=h;⟨y,e,VR.mono hl x y p⟩
 | .agg cs,v,h=>let ⟨xs,e,p⟩:=h;⟨xs,e,VRs.mono hl cs _ p⟩
 | .tup cs,v,h=>let ⟨xs,e,p⟩:=h;⟨xs,e,VRs.mono hl cs _ p⟩
 | .opq n,v,h=>h
 | .oint k n,v,h=>h
 | .ostr n,v,h=>h
 | .obool e,v,h=>h
 | .osl b off len sz,v,h=>b98 (fun⟨L,c,a,e,x⟩=>⟨L,c,a,hl _ _ e,x⟩) id h
 | .optr b idx j sz,v,h=>let ⟨L,e,x⟩:=h;⟨L,hl _ _ e,x⟩
 | .ous b len sz,v,h=>b98 (fun⟨L,c,e,x⟩=>⟨L,c,hl _ _ e,x⟩) id h
 | .atl n,v,h=>h
 | .any,v,h=>h
theorem VRs.mono{β β':Bij}{ω:Opq}(hl:Le β β'): ∀(a:List AV) (v:List Value),VRs β ω a v→VRs β' ω a v
 | [],vs,h=>h
 |a::r,vs,h=>let ⟨v,vr,e,p,q⟩:=h;⟨v,vr,e,VR.mono hl a v p,VRs.mono hl r vr q⟩
end
theorem VRs.length{β:Bij}{ω:Opq}: ∀{a:List AV} {v:List Value},VRs β ω a v→v.length=a.length
 | [],_,h=>by rw[h];rfl
 |_::r,_,⟨v,vr,e,_,q⟩=>by rw[e];simp[VRs.length q]
theorem VRs.cons{β:Bij}{ω:Opq}{a:AV}{r:List AV}{v:Value}{vr:List Value}(h:VR β ω a v)(k:VRs β ω r vr):VRs β ω (a::r) (v::vr):=⟨v,vr,rfl,h,k⟩
theorem VRs.nil{β:Bij}{ω:Opq}:VRs β ω [] []:=rfl
theorem VRs.one{β:Bij}{ω:Opq}{a:AV}{v:Value}(h:VR β ω a v):VRs β ω [a] [v]:= .cons h .nil
theorem VRs.append{β:Bij}{ω:Opq}: ∀{a b:List AV} {v u:List Value},VRs β ω a v→VRs β ω b u→VRs β ω (a++b) (v++u)
 | [],_,_,_,h,k=>by rw[h];exact k
 |_::_,_,_,_,⟨v,vr,e,p,q⟩,k=>by rw[e];exact .cons p (VRs.append q k)
theorem VRs.drop{β:Bij}{ω:Opq}: ∀(n:Nat) {a:List AV} {v:List Value},VRs β ω a v→VRs β ω (a.drop n) (v.drop n)
 |0,_,_,h=>h
 |n+1,[],_,h=>by rw[h];exact .nil
 |n+1,_::_,_,⟨v,vr,e,p,q⟩=>by rw[e];exact VRs.drop n q
theorem VRs.take{β:Bij}{ω:Opq}: ∀(n:Nat) {a:List AV} {v:List Value},VRs β ω a v→VRs β ω (a.take n) (v.take n)
 |0,_,_,h=>by simp;exact .nil
 |n+1,[],_,h=>by rw[h];exact .nil
 |n+1,_::_,_,⟨v,vr,e,p,q⟩=>by rw[e];exact .cons p (VRs.take n q)
theorem VRs.get{β:Bij}{ω:Opq}: ∀{a:List AV} {v:List Value} (i:Nat) (x:AV),VRs β ω a v→a[i]? =some x→ ∃y,v[i]? =some y∧VR β ω x y
 | [],_,i,x,h,e=>by simp at e
 |a::r,_,0,x,⟨v,vr,e',p,q⟩,e=>by simp at e;subst e;exact⟨v,by rw[e'];rfl,p⟩
 |a::r,_,i+1,x,⟨v,vr,e',p,q⟩,e=>by
  simp at e
  obtain⟨y,hy,z⟩:=VRs.get i x q e
  exact⟨y,by rw[e'];simpa using hy,z⟩
theorem VR.one{β:Bij}{ω:Opq}{a:AV}{v:Value}(h:VR β ω a v)(ho:a.one=true):v.oneCell'=true:=by
 cases a<;>simp only[VR,AV.one]at h ho<;>first
  |(rcases h with⟨L,c,a,_,rfl,_⟩|⟨rfl,_⟩<;>rfl)
  |(rcases h with⟨L,c,a,_,rfl,_⟩|⟨a,c,rfl,_⟩<;>rfl)
  |(rcases h with⟨L,c,_,_,rfl,_⟩|⟨rfl,_⟩<;>rfl)
  |(subst h;rfl)
  |(obtain⟨L,_,rfl⟩:=h;rfl)
  |(obtain⟨L,c,_,_,rfl⟩:=h;rfl)
  |(obtain⟨L,a,c,_,rfl,_⟩:=h;rfl)
  |(obtain⟨a,rfl⟩:=h;rfl)
  |(obtain⟨m,rfl,_⟩:=h;rfl)
  |(obtain⟨_,x,y,rfl,_⟩:=h;rfl)
  |(obtain⟨y,rfl,_⟩:=h;rfl)
  |(subst h;exact ω.one _)
  |simp at ho
theorem AV.one_A{a:AV}(h:a.one=true):a.oneA=true:=by cases a<;>first|rfl|cases h
theorem aG9{l:List AV}(h:l.all AV.one=true):l.all AV.oneA=true:=i6.2 fun x hx=>AV.one_A (i6.1 h x hx)
theorem VR.cells{β:Bij}{ω:Opq}{a:AV}{v:Value}(h:VR β ω a v)(ht:a.nt=true):VRs β ω a.cells v.cells.toList:=by
 cases a with
 |agg cs=>obtain⟨xs,rfl,p⟩:=h;exact p
 |tup vs=>cases ht
 |any=>cases ht
 |func fn x y=>obtain⟨n,a,b,rfl,p,q⟩:=h;exact .one ⟨n,a,b,rfl,p,q⟩
 |iface t x=>obtain⟨y,rfl,p⟩:=h;exact .one ⟨y,rfl,p⟩
 |opq n=>
  have h1:=VR.one h rfl
  have:v.cells= #[v]:=by cases v<;>first|rfl|(simp[Value.oneCell']at h1)
  rw[this];exact .one h
 |_=>
  have h1:=VR.one h rfl
  have:v.cells= #[v]:=by cases v<;>first|rfl|(simp[Value.oneCell']at h1)
  rw[this];exact .one h
theorem b99{β:Bij}{ω:Opq}{v:Value}{a:AV}(h:aF4 v=some a):VR β ω a v:=by
 unfold aF4 at h
 split at h<;>first
  |(simp only[a8]at h;subst h;simp[VR])
  |simp at h
theorem bH5{v:Value}{a:AV}(h:aF4 v=some a):a.one=true:=by
 unfold aF4 at h
 split at h<;>first
  |(simp only[a8]at h;subst h;rfl)
  |simp at h
theorem aU3{β:Bij}{ω:Opq}: ∀{l:List Value} {cs:List AV},l.mapM aF4=some cs→VRs β ω cs l
 | [],cs,h=>by simp at h;subst h;exact .nil
 |v::r,cs,h=>by
  simp only[C3,Option.bind_eq_bind,j6,Option.pure_def,a8]at h
  obtain⟨a,ha,b,hb,rfl⟩:=h
  exact .cons (b99 ha) (aU3 hb)
theorem a19{β:Bij}{ω:Opq}{v:Value}{a:AV}(h:bi4 v=some a):VR β ω a v:=by
 unfold bi4 at h
 split at h
 ·simp only[j4]at h
  obtain⟨cs,hc,rfl⟩:=h
  exact⟨_,rfl,aU3 hc⟩
 ·split at h
  ·rename_i vs l e
   simp only[a8]at h;subst h
   exact⟨vs,rfl,e⟩
  ·cases h
 ·exact b99 h
inductive ERs (β:Bij) (ω:Opq):List Ent→List MapEntry→Prop where
 |nil:ERs β ω [] []
 |cons {e:Ent} {r:List Ent} {k v:Value} {m:List MapEntry}:VR β ω e.key k→VR β ω e.val v→ERs β ω r m→ERs β ω (e::r) (⟨k,v,e.born⟩::m)
theorem ERs.mono{β β':Bij}{ω:Opq}(hl:Le β β'){a:List Ent}{m:List MapEntry}(h:ERs β ω a m):ERs β' ω a m:=by
 induction h with
 |nil=>exact .nil
 |cons p q _ ih=>exact .cons (VR.mono hl _ _ p) (VR.mono hl _ _ q) ih
theorem ERs.length{β:Bij}{ω:Opq}{a:List Ent}{m:List MapEntry}(h:ERs β ω a m):m.length=a.length:=by
 induction h with
 |nil=>rfl
 |cons _ _ _ ih=>simp[ih]
def TR(β:Bij)(ω:Opq)(t:TF)(nt:Nat)(tmps:Array Value):Prop:=tmps.size=nt∧nt≤256∧ ∀n,VR β ω (t.get n) (tmps.getD n Go.undef)
theorem TR.mono{β β':Bij}{ω:Opq}(hl:Le β β'){t:TF}{nt:Nat}{tmps:Array Value}(h:TR β ω t nt tmps):TR β' ω t nt tmps:=
 ⟨h.1,h.2.1,fun n=>VR.mono hl _ _ (h.2.2 n)⟩
def IR(β:Bij):Option Nat→Option Nat→Prop
 |none,m=>m=none
 |some r,m=> ∃L,β r=some L∧m=some L.blk
theorem IR.mono{β β':Bij}(hl:Le β β'){a b:Option Nat}(h:IR β a b):IR β' a b:=by
 cases a with
 |none=>exact h
 |some r=>obtain⟨L,e,x⟩:=h;exact⟨L,hl _ _ e,x⟩
def a26(c:CT)(x:Val):Value:=match c with
 | .int k=> .int k x.toI
 | .str=> .string ⟨x.toS.toArray⟩
 | .bool=> .bool x.toB
def a27(sig:List CT)(r:Val):List Value:=(List.range sig.length).map fun j=>a26 (sig.getD j .bool) (r.toL.getD j default)
def N7(sig:List CT)(l:List Val):List Value:=l.flatMap (a27 sig)
def ooa:List Value→Value
 | [v]=>v
 |vs=> .agg vs.toArray
def bk9(ks vs:List CT)(r:Val):Value×Value:=(ooa ((a27 (ks++vs) r).take ks.length),ooa ((a27 (ks++vs) r).drop ks.length))
def U4(d:Bool)(E:List MapEntry)(c:Nat):Prop:=(E.map (·.born)).Pairwise (· < ·)∧(∀e∈E,e.born<c)∧(d=true→E.map (·.born)=List.range c)
theorem U4.nil(c:Nat):U4 (Nat.beq c 0) [] c:=by
 refine⟨.nil,fun _ h=>(by cases h),fun h=> ?_⟩
 have:c=0:=by simpa using h
 subst this;rfl
theorem U4.weak{d d':Bool}{E:List MapEntry}{c:Nat}(h:U4 d' E c)(hd:(!d||d')=true):U4 d E c:=⟨h.1,h.2.1,fun e=>h.2.2 (by subst e;simpa using hd)⟩
def BR(β:Bij)(ω:Opq)(L:Loc)(o:Option Obj):Blk→Prop
 | .cells e fz cs=> ∃C lo hi vs,o=some (.cells C e (lo,hi))∧L.off+L.ext≤C.size∧cs.length≤L.ext∧cs.all AV.oneA=true∧VRs β ω cs vs∧
  (∀i,i<cs.length→C[L.off+i]? =vs[i]?)∧(∀i,fz≤i→i<L.ext→ ¬(lo≤L.off+i∧L.off+i<hi))∧(ω.fix e=true→L.off=0)
 | .arr e sig l=> ∃C e' lo hi,o=some (.cells C e' (lo,hi))∧(e'=e∨e=an1)∧L.off+L.ext≤C.size∧(dL ω l).length*sig.length≤L.ext∧
  (∀i v,(N7 sig (dL ω l))[i]? =some v→C[L.off+i]? =some v)∧(∀i,i<L.ext→ ¬(lo≤L.off+i∧L.off+i<hi))
 | .map es c=> ∃E,o=some (.map E c)∧ERs β ω es E.toList
 | .marr d ks vs l=> ∃E c,o=some (.map E c)∧(E.toList.map fun e=>(e.key,e.val))=(dL ω l).map (bk9 ks vs)∧U4 d E.toList c
 | .bag e sig l=> ∃D:List Val,D.Perm (dL ω l)∧ ∃C e' lo hi,o=some (.cells C e' (lo,hi))∧(e'=e∨e=an1)∧L.off+L.ext≤C.size∧D.length*sig.length≤L.ext∧
  (∀i v,(N7 sig D)[i]? =some v→C[L.off+i]? =some v)∧(∀i,i<L.ext→ ¬(lo≤L.off+i∧L.off+i<hi))
 | .mrg it d ks vs l=> ∃E c Li,o=some (.map E c)∧β it=some Li∧Li.ext=c∧(E.toList.map fun e=>(e.key,e.val))=(dL ω l).map (bk9 ks vs)∧U4 d E.toList c
 | .vec cs=> ∃C e lo hi vs,o=some (.cells C e (lo,hi))∧VRs β ω cs vs∧ ∀i,i<cs.length→C[L.off+i]? =vs[i]?
 | .mit m=>L.off=0∧ ∃Lm,β m=some Lm∧o=some (.mapIter (some Lm.blk) L.ext #[] L.ext)
 | .strIter s pos=>L.off=0∧o=some (.stringIter ⟨s.toArray⟩ pos)
 | .mapIter m since seen last=>L.off=0∧ ∃m',o=some (.mapIter m' since seen.toArray last)∧IR β m m'
 | .loop st pend fn tm nt ps as body d=> ∃tmps f' Ld,o=some (.loop {state:=st,pending:=pend,fn:=f',tmps:=tmps,params:=ps,assign:=as,body:=body,defers:=Ld.blk})∧β d=some Ld∧TR β ω tm nt tmps
 | .defd taken=>o=some (.deferred (if taken then none else some []))
theorem BR.mono{β β':Bij}{ω:Opq}(hl:Le β β'){L:Loc}{o:Option Obj}{x:Blk}(h:BR β ω L o x):BR β' ω L o x:=by
 cases x with
 |cells e fz cs=>obtain⟨C,lo,hi,vs,h1,h2,h3,h4,h5,h6⟩:=h;exact⟨C,lo,hi,vs,h1,h2,h3,h4,VRs.mono hl _ _ h5,h6⟩
 |arr e sig l=>exact h
 |map es c=>obtain⟨E,h1,h2⟩:=h;exact⟨E,h1,h2.mono hl⟩
 |marr d ks vs l=>exact h
 |bag e sig l=>exact h
 |mrg it d ks vs l=>obtain⟨E,c,Li,h1,h2,h3⟩:=h;exact⟨E,c,Li,h1,hl _ _ h2,h3⟩
 |mit m=>obtain⟨h0,Lm,h1,h2⟩:=h;exact⟨h0,Lm,hl _ _ h1,h2⟩
 |vec cs=>obtain⟨C,e,lo,hi,vs,h1,h2,h3⟩:=h;exact⟨C,e,lo,hi,vs,h1,VRs.mono hl _ _ h2,h3⟩
 |strIter s pos=>exact h
 |mapIter m since seen last=>obtain⟨h0,m',h1,h2⟩:=h;exact⟨h0,m',h1,h2.mono hl⟩
 |loop st pend fn tm nt ps as body d=>obtain⟨tmps,f',Ld,h1,h2,h3⟩:=h;exact⟨tmps,f',Ld,h1,hl _ _ h2,h3.mono hl⟩
 |defd t=>exact h
def Blk.isArr:Blk→Bool
 | .arr _ _ _=>true
 | .bag _ _ _=>true
 | .vec _=>true
 |_=>false
structure HR (β:Bij) (ω:Opq) (K:Nat→Prop) (w0:World) (h:Heap) (w:World):Prop where
 blk: ∀b x L,h.get b=some x→β b=some L→BR β ω L w.heap[L.blk]? x
 sep: ∀b b' x x' L L',h.get b=some x→h.get b'=some x'→β b=some L→β b'=some L'→b≠b'→h.wm≤b∨h.wm≤b'∨x.isArr=false∨x'.isArr=false→L.blk≠L'.blk
 fresh: ∀b,h.next≤b→β b=none
 fget: ∀b,h.next≤b→h.get b=none
 lt: ∀b L,β b=some L→L.blk<w.heap.size
 kin: ∀i,K i→i<w0.heap.size
 keep: ∀i,K i→w.heap[i]? =w0.heap[i]?
 free: ∀b x L,h.get b=some x→h.wm≤b→β b=some L→ ¬K L.blk
 size:w0.heap.size≤w.heap.size
 os:w.os=w0.os
 tape:w.tape=w0.tape
 out:w.output=w0.output
 dr:w0.drawn≤w.drawn
structure St (h:Heap) (β:Bij) (h':Heap) (β':Bij):Prop where
 le:h.next≤h'.next
 ext: ∀b,b<h.next→β' b=β b
 unm: ∀b,b<h.next→β b=none→h'.get b=h.get b∨h'.get b=none∨ ∃e sig l,h.get b=some (.arr e sig l)
 wm:h'.wm=h.wm
theorem St.refl(h:Heap)(β:Bij):St h β h β:=⟨b9 _,fun _ _=>rfl,fun _ _ _=> .inl rfl,rfl⟩
theorem St.trans{h h' h'':Heap}{β β' β'':Bij}(s:St h β h' β')(t:St h' β' h'' β''):St h β h'' β'':=
 ⟨m7 s.le t.le,fun b hb=>(t.ext b (o7 hb s.le)).trans (s.ext b hb),
  fun b hb hn=>by
   rcases t.unm b (o7 hb s.le) ((s.ext b hb).trans hn)with h1|h1|⟨e,sg,l,h1⟩
   ·rcases s.unm b hb hn with h2|h2|h2
    ·exact .inl (h1.trans h2)
    ·exact .inr (.inl (h1.trans h2))
    ·exact .inr (.inr h2)
   ·exact .inr (.inl h1)
   ·rcases s.unm b hb hn with h2|h2|h2
    ·exact .inr (.inr ⟨e,sg,l,h2.symm.trans h1⟩)
    ·rw[h2]at h1;cases h1
    ·exact .inr (.inr h2),t.wm.trans s.wm⟩
theorem St.Le{β:Bij}{ω:Opq}{K:Nat→Prop}{w0 w:World}{h h':Heap}{β':Bij}(s:St h β h' β')(r:HR β ω K w0 h w):Le β β':=by
 intro b L e
 rw[s.ext b]
 ·exact e
 ·rcases d8 b h.next with hb|hb
  ·exact hb
  ·rw[r.fresh b hb]at e;cases e
theorem HR.drew{β:Bij}{ω:Opq}{K:Nat→Prop}{w0 w:World}{h:Heap}(r:HR β ω K w0 h w):HR β ω K w0 h w.drew:=
 ⟨r.blk,r.sep,r.fresh,r.fget,r.lt,r.kin,r.keep,r.free,r.size,r.os,r.tape,r.out,F5 r.dr⟩
def Bij.add(β:Bij)(n:Nat)(L:Loc):Bij:=fun b=>if b=n then some L else β b
theorem HR.new{β:Bij}{ω:Opq}{K:Nat→Prop}{w0 w:World}{h:Heap}(r:HR β ω K w0 h w)(o:Obj)(x:Blk)(off ext:Nat)
 (hx:BR (β.add h.next ⟨w.heap.size,off,ext⟩) ω ⟨w.heap.size,off,ext⟩ (some o) x):
 HR (β.add h.next ⟨w.heap.size,off,ext⟩) ω K w0 (h.new x) (w.alloc o)∧St h β (h.new x) (β.add h.next ⟨w.heap.size,off,ext⟩):=by
 have hst:St h β (h.new x) (β.add h.next ⟨w.heap.size,off,ext⟩):=by
  refine⟨by simp,fun b hb=> ?_,fun b hb _=> ?_,rfl⟩
  ·simp only[Bij.add];rw[if_neg (by omega)]
  ·left;rw[Heap.get_new,if_neg (by omega)]
 have hle:=hst.Le r
 have hold: ∀i,i<w.heap.size→(w.alloc o).heap[i]? =w.heap[i]? :=fun i hi=>RowKit.Below.heap_alloc _ _ _ hi
 have aF3:(w.alloc o).heap[w.heap.size]? =some o:=by show(w.heap.push o)[w.heap.size]? =_;simp
 refine⟨⟨?_,?_,?_,?_,?_,r.kin,?_,?_,?_,r.os,r.tape,r.out,r.dr⟩,hst⟩
 ·intro b y L hg hb
  rw[Heap.get_new]at hg
  by_cases e:b=h.next
  ·subst e
   rw[if_pos rfl]at hg
   split at hg
   ·simp only[a8]at hg;subst hg
    simp only[Bij.add,if_true,a8]at hb;subst hb
    rw[aF3];exact hx
   ·cases hg
  ·rw[if_neg e]at hg
   simp only[Bij.add,if_neg e]at hb
   rw[hold _ (r.lt b L hb)]
   exact(r.blk b y L hg hb).mono hle
 ·intro b b' y y' L L' hg hg' hb hb' hne hw
  rw[Heap.get_new]at hg hg'
  by_cases e:b=h.next
  ·by_cases e':b'=h.next
   ·exact absurd (e.trans e'.symm) hne
   ·subst e
    simp only[Bij.add,if_true,a8]at hb;subst hb
    simp only[Bij.add,if_neg e']at hb'
    exact Nat.ne_of_gt (r.lt b' L' hb')
  ·simp only[Bij.add,if_neg e]at hb
   rw[if_neg e]at hg
   by_cases e':b'=h.next
   ·subst e'
    simp only[Bij.add,if_true,a8]at hb';subst hb'
    exact F6 (r.lt b L hb)
   ·simp only[Bij.add,if_neg e']at hb'
    rw[if_neg e']at hg'
    exact r.sep b b' y y' L L' hg hg' hb hb' hne hw
 ·intro b hb
  simp only[Heap.next_new]at hb
  simp only[Bij.add];rw[if_neg (by omega)];exact r.fresh b (by omega)
 ·intro b hb
  simp only[Heap.next_new]at hb
  rw[Heap.get_new,if_neg (by omega)];exact r.fget b (by omega)
 ·intro b L hb
  rw[World.size_alloc]
  simp only[Bij.add]at hb
  split at hb
  ·simp only[a8]at hb;subst hb;simp
  ·exact J0 (r.lt b L hb)
 ·intro i hi
  rw[hold i (o7 (r.kin i hi) r.size)];exact r.keep i hi
 ·intro b y L hg hw hb
  rw[Heap.get_new]at hg
  by_cases e:b=h.next
  ·subst e
   simp only[Bij.add,if_true,a8]at hb;subst hb
   intro hk
   exact absurd (r.kin _ hk) (Nat.not_lt.2 r.size)
  ·rw[if_neg e]at hg
   simp only[Bij.add,if_neg e]at hb
   exact r.free b y L hg hw hb
 ·rw[World.size_alloc];exact F5 r.size
theorem HR.upd{β:Bij}{ω:Opq}{K:Nat→Prop}{w0 w w':World}{h:Heap}(r:HR β ω K w0 h w)(b:Nat)(x0 x:Blk)(L:Loc)
 (hg:h.get b=some x0) (hb:β b=some L) (hwm:h.wm≤b)
 (hother: ∀i,i≠L.blk→w'.heap[i]? =w.heap[i]?) (hsz:w'.heap.size=w.heap.size) (hos:w'.os=w.os) (htp:w'.tape=w.tape) (hout:w'.output=w.output) (hdr:w'.drawn=w.drawn)
 (hx:BR β ω L w'.heap[L.blk]? x):HR β ω K w0 (h.put b (some x)) w'∧St h β (h.put b (some x)) β:=by
 have hlim:=Heap.get_lim h b x0 hg
 refine⟨⟨?_,?_,r.fresh,?_,?_,r.kin,?_,?_,?_,hos.trans r.os,htp.trans r.tape,hout.trans r.out,by rw[hdr];exact r.dr⟩,⟨b9 _,fun _ _=>rfl,?_,rfl⟩⟩
 ·intro b' y L' hg' hb'
  rw[Heap.get_put]at hg'
  by_cases e:b'=b
  ·subst e
   rw[if_pos rfl,if_pos hlim]at hg'
   simp only[a8]at hg';subst hg'
   rw[hb]at hb';simp only[a8]at hb';subst hb'
   exact hx
  ·rw[if_neg e]at hg'
   rw[hother _ (r.sep b' b y x0 L' L hg' hg hb' hb e (.inr (.inl hwm)))]
   exact r.blk b' y L' hg' hb'
 ·intro b1 b2 y y' L1 L2 h1 h2 h3 h4 hne hw
  rw[Heap.get_put]at h1 h2
  by_cases e1:b1=b
  ·subst e1
   rw[if_neg (Ne.symm hne)]at h2
   exact r.sep b1 b2 x0 y' L1 L2 hg h2 h3 h4 hne (.inl hwm)
  ·rw[if_neg e1]at h1
   by_cases e2:b2=b
   ·subst e2
    exact r.sep b1 b2 y x0 L1 L2 h1 hg h3 h4 hne (.inr (.inl hwm))
   ·rw[if_neg e2]at h2
    exact r.sep b1 b2 y y' L1 L2 h1 h2 h3 h4 hne hw
 ·intro b' hb'
  rw[Heap.get_put]
  by_cases e:b'=b
  ·subst e
   rw[Heap.next_put]at hb'
   rw[r.fget b' hb']at hg;cases hg
  ·rw[if_neg e];exact r.fget b' hb'
 ·intro b' L' hb';rw[hsz];exact r.lt b' L' hb'
 ·intro i hi
  rw[hother i (fun e=>r.free b x0 L hg hwm hb (e▸hi))];exact r.keep i hi
 ·intro b' y L' hg' hw' hb'
  rw[Heap.get_put]at hg'
  by_cases e:b'=b
  ·subst e;exact r.free b' x0 L' hg hw' hb'
  ·rw[if_neg e]at hg';exact r.free b' y L' hg' hw' hb'
 ·rw[hsz];exact r.size
 ·intro b' _ hn
  left
  rw[Heap.get_put,if_neg]
  intro e;subst e;rw[hb]at hn;cases hn
theorem HR.drop{β:Bij}{ω:Opq}{K:Nat→Prop}{w0 w:World}{h:Heap}(r:HR β ω K w0 h w)(b:Nat):
 HR β ω K w0 (h.put b none) w∧St h β (h.put b none) β:=by
 have hg: ∀b' y,(h.put b none).get b'=some y→b'≠b∧h.get b'=some y:=by
  intro b' y hg
  rw[Heap.get_put]at hg
  by_cases e:b'=b
  ·rw[if_pos e]at hg;split at hg<;>cases hg
  ·rw[if_neg e]at hg;exact⟨e,hg⟩
 refine⟨⟨fun b' y L' h1=>r.blk b' y L' (hg _ _ h1).2,fun b1 b2 y y' L1 L2 h1 h2=>r.sep b1 b2 y y' L1 L2 (hg _ _ h1).2 (hg _ _ h2).2,r.fresh,?_,r.lt,r.kin,r.keep,
  fun b' y L' h1=>r.free b' y L' (hg _ _ h1).2,r.size,r.os,r.tape,r.out,r.dr⟩,⟨b9 _,fun _ _=>rfl,?_,rfl⟩⟩
 ·intro b' hb'
  rw[Heap.get_put]
  split
  ·split<;>rfl
  ·exact r.fget b' hb'
 ·intro b' _ _
  rw[Heap.get_put]
  by_cases e:b'=b
  ·right;left;rw[if_pos e];split<;>rfl
  ·left;rw[if_neg e]
theorem HR.kill{β:Bij}{ω:Opq}{K:Nat→Prop}{w0 w:World}{h:Heap}(r:HR β ω K w0 h w)(b:Nat)(L:Loc)(hb:β b=some L):
 HR β ω K w0 (h.put b none) w∧St h β (h.put b none) β:=r.drop b
theorem HR.retell{β:Bij}{ω:Opq}{K:Nat→Prop}{w0 w:World}{h:Heap}{b:Nat}{x y:Blk}(r:HR β ω K w0 h w)(hg:h.get b=some x)(hk:h.wm≤b∨x.isArr=false)(hbr: ∀L,β b=some L→BR β ω L w.heap[L.blk]? x→BR β ω L w.heap[L.blk]? y){h2:Heap}(h2n:h2.next=h.next)(h2w:h2.wm=h.wm)
 (h2g: ∀z,h2.get z=if z=b then some y else h.get z):HR β ω K w0 h2 w:=by
 have key: ∀z u,h2.get z=some u→ ∃v,h.get z=some v∧(∀L,β z=some L→BR β ω L w.heap[L.blk]? v→BR β ω L w.heap[L.blk]? u)∧(h.wm≤z∨v.isArr=false∨v=u):=by
  intro z u hu
  rw[h2g]at hu
  by_cases hx:z=b
  ·subst hx
   rw[if_pos rfl,a8]at hu
   subst hu
   exact⟨_,hg,hbr,hk.elim .inl (fun q=> .inr (.inl q))⟩
  ·rw[if_neg hx]at hu
   exact⟨u,hu,fun L _ hh=>hh,.inr (.inr rfl)⟩
 refine⟨fun x y L hy hL=> ?_,fun x x' y y' L L' hy hy' hL hL' hne hw=> ?_,fun x hx=>r.fresh x (by rw[←h2n];exact hx),fun x hx=> ?_,r.lt,r.kin,r.keep,fun x y L hy hw hL=> ?_,r.size,r.os,r.tape,r.out,r.dr⟩
 ·obtain⟨z,z1,z2,_⟩:=key x y hy
  exact z2 L hL (r.blk x z L z1 hL)
 ·obtain⟨z,z1,_,z3⟩:=key x y hy
  obtain⟨z',z1',_,z3'⟩:=key x' y' hy'
  refine r.sep x x' z z' L L' z1 z1' hL hL' hne ?_
  rw[h2w]at hw
  rcases z3 with q|q|rfl
  ·exact .inl q
  ·exact .inr (.inr (.inl q))
  ·rcases z3' with q|q|rfl
   ·exact .inr (.inl q)
   ·exact .inr (.inr (.inr q))
   ·exact hw
 ·have:=r.fget x (by rw[←h2n];exact hx)
  rw[h2g]
  by_cases hx2:x=b
  ·subst hx2;rw[hg]at this;cases this
  ·rw[if_neg hx2];exact this
 ·obtain⟨z,z1,_⟩:=key x y hy
  exact r.free x z L z1 (by rw[←h2w];exact hw) hL
end Go.Ev
