import GoSem.Step
set_option linter.unusedVariables false
namespace Go.Ev
open Go
abbrev b9:=@Option.some.injEq
abbrev e8:=@Nat.le_refl
abbrev e9:=@Bool.and_eq_true
abbrev i3:=@Prod.mk.injEq
abbrev i4:=@Nat.lt_or_ge
abbrev i6:=@List.getD_eq_getElem?_getD
abbrev j0:=@List.length_take
abbrev j5:=@List.all_eq_true
abbrev j6:=@List.mem_map
abbrev j7:=@Nat.zero_add
abbrev j8:=@List.getElem?_eq_getElem
abbrev j9:=@List.length_append
abbrev k5:=@List.mem_cons
abbrev k6:=@List.map_cons
abbrev k7:=@Bool.false_eq_true
abbrev k8:=@List.getElem?_append_right
abbrev k9:=@List.getElem?_append_left
abbrev l5:=@Option.map_eq_some_iff
abbrev l6:=@Nat.zero_le
abbrev l7:=@Option.bind_eq_some_iff
abbrev l8:=@List.getElem?_eq_none
abbrev l9:=@Bool.false_and
abbrev m7:=@List.length_map
abbrev m8:=@Array.getD_eq_getD_getElem?
abbrev m9:=@List.getElem?_eq_some_iff
abbrev n5:=@Bool.or_eq_true
abbrev n7:=@List.mem_filter
abbrev n8:=@List.mem_cons_of_mem
abbrev n9:=@List.length_drop
abbrev o7:=@List.mem_singleton
abbrev o8:=@Nat.add_assoc
abbrev o9:=@List.map_append
abbrev p7:=@Nat.le_trans
abbrev p8:=@Nat.add_mul
abbrev p9:=@List.getElem?_take
abbrev q9:=@List.mem_append
abbrev r8:=@List.mem_cons_self
abbrev r9:=@List.getElem?_drop
abbrev s6:=@Array.getElem?_eq_getElem
abbrev s7:=@List.map_map
abbrev s8:=@List.filter_cons
abbrev s9:=@List.mem_range
abbrev t7:=@Nat.lt_of_lt_of_le
abbrev t8:=@List.take_append_drop
abbrev u4:=@Bool.not_eq_true
abbrev u5:=@List.map_congr_left
abbrev u9:=@Array.getElem?_eq_none
abbrev v7:=@Bool.eq_iff_iff
abbrev v8:=@List.append_assoc
abbrev x5:=@Bool.not_eq_true'
abbrev x6:=@List.flatMap_cons
abbrev x7:=@List.append_nil
abbrev x8:=@Nat.le_add_right
abbrev x9:=@Nat.min_eq_left
abbrev y5:=@Bool.false_or
abbrev y6:=@List.length_eq_zero_iff
abbrev y7:=@List.pairwise_cons
abbrev y8:=@Int.le_refl
abbrev y9:=@Nat.add_comm
abbrev z8:=@Nat.mul_le_mul_right
abbrev A0:=@List.eq_nil_of_length_eq_zero
abbrev A1:=@List.getElem?_map
abbrev A2:=@Nat.mul_comm
abbrev A3:=@Prod.ext
abbrev A4:=@Bool.and_true
abbrev A5:=@Nat.add_sub_cancel_left
abbrev A6:=@List.getD_cons_zero
abbrev A7:=@List.getElem_mem
abbrev A8:=@List.range'_succ
abbrev A9:=@List.size_toArray
abbrev B0:=@List.take_length
abbrev B1:=@List.not_mem_nil
abbrev B2:=@List.nodup_cons
abbrev B3:=@Bool.not_true
abbrev B4:=@Nat.le_of_mul_le_mul_right
abbrev B5:=@Bool.true_and
abbrev B6:=@List.mem_flatMap
abbrev B7:=@List.getD_cons_succ
abbrev B8:=@List.cons.injEq
abbrev B9:=@Array.getElem?_setIfInBounds
abbrev C0:=@Array.ext'
abbrev C1:=@Nat.le_of_not_lt
abbrev C3:=@List.length_set
abbrev C4:=@List.filter_append
abbrev C5:=@Nat.min_eq_right
abbrev C6:=@List.nodup_iff_pairwise_ne
abbrev C7:=@Nat.not_lt
abbrev C8:=@Nat.one_mul
abbrev C9:=@Nat.zero_mul
abbrev D6:=@List.mem_of_getElem?
abbrev D7:=@Array.toList_inj
abbrev D8:=@Int.not_le
abbrev E2:=@List.mapM_cons
abbrev E3:=@List.forIn_cons
abbrev E4:=@Nat.sub_self
abbrev E5:=@List.drop_of_length_le
abbrev E6:=@Nat.beq_eq
abbrev E7:=@Int.not_lt
abbrev E8:=@Nat.mul_div_le
abbrev E9:=@Nat.mul_assoc
abbrev F5:=@Int.mul_comm
abbrev F6:=@Nat.lt_trichotomy
abbrev F7:=@List.all_append
abbrev F8:=@Nat.mul_le_mul
abbrev F9:=@List.getElem?_toArray
abbrev G0:=@Array.toList_modify
abbrev G1:=@Array.toList_push
abbrev G2:=@List.take_left
abbrev G3:=@List.drop_left
abbrev G4:=@List.range_eq_range'
abbrev G5:=@List.map_nil
abbrev G6:=@List.drop_eq_getElem_cons
abbrev G7:=@List.perm_ext_iff_of_nodup
abbrev G8:=@Nat.mul_le_mul_left
abbrev G9:=@Int.add_mul
abbrev I0:=@Nat.le_succ_of_le
abbrev I1:=@Nat.ne_of_lt
abbrev I2:=@Int.fdiv_eq_ediv_of_nonneg
abbrev I3:=@Bool.not_not
abbrev I4:=@List.drop_take
abbrev I5:=@List.drop_drop
abbrev I6:=@Array.getElem?_modify
abbrev I7:=@List.mem_of_mem_take
abbrev I8:=@Array.getElem?_append_left
abbrev I9:=@List.ext_getElem
abbrev J0:=@List.length_range
abbrev J1:=@Nat.eq_zero_or_pos
abbrev J2:=@List.cons.inj
abbrev J3:=@List.range_succ_eq_map
abbrev J4:=@List.drop_zero
abbrev J5:=@List.ext_getElem?
abbrev J6:=@List.any_eq_true
abbrev J7:=@List.drop_eq_nil_of_le
abbrev J8:=@List.nodup_range
abbrev J9:=@List.take_left'
abbrev K0:=@List.drop_left'
abbrev K4:=@Nat.max_eq_right
abbrev K5:=@List.pairwise_iff_getElem
abbrev K6:=@Nat.lt_irrefl
abbrev K7:=@Int.emod_nonneg
abbrev K8:=@Int.emod_lt_of_pos
abbrev K9:=@Int.toNat_of_nonneg
abbrev M0:=@List.take_append_getElem
abbrev M3:=@Int.add_zero
abbrev M4:=@Int.mul_add
abbrev M5:=@List.pairwise_map
abbrev M6:=@Nat.lt_succ_of_lt
abbrev M7:=@List.drop_append
abbrev M8:=@Array.foldl_toList
abbrev M9:=@Option.isSome_iff_exists
abbrev N0:=@Array.all_eq_true'
abbrev N1:=@Array.toList_map
abbrev N2:=@Array.toList_eraseIdx
abbrev N3:=@List.any_eq_false
abbrev N4:=@List.flatMap_append
abbrev N5:=@List.range_succ
abbrev N6:=@Nat.le_antisymm
abbrev N7:=@List.take_of_length_le
abbrev N8:=@List.filter_eq_nil_iff
abbrev N9:=@List.mem_or_eq_of_mem_set
abbrev O0:=@Option.some.inj
abbrev O1:=@List.getElem_of_mem
abbrev O2:=@Nat.max_eq_left
abbrev O3:=@Array.getElem?_eq_some_iff
abbrev O4:=@List.ne_nil_of_mem
abbrev O5:=@List.Perm.append_left
abbrev O6:=@Int.tmod_eq_emod_of_nonneg
abbrev O7:=@Nat.lt_mul_div_succ
abbrev O8:=@Int.mul_le_mul_of_nonneg_right
abbrev O9:=@List.map_eq_flatMap
abbrev P0:=@List.find?_eq_none
abbrev P3:=@List.foldl_append
abbrev P4:=@List.drop_append_of_le_length
abbrev P5:=@List.take_append_of_le_length
abbrev P6:=@Array.getElem?_append_right
noncomputable section
structure P16 (α:Type)where
 f0:α
 f1:α
 f2:α
 f3:α
 f4:α
 f5:α
 f6:α
 f7:α
 f8:α
 f9:α
 f10:α
 f11:α
 f12:α
 f13:α
 f14:α
 f15:α
structure Dg where
 g:(α:Type)→P16 α→α
 s:(α:Type)→α→P16 α→P16 α
def dg0:Dg:=⟨fun _ t=>t.f0,fun _ x t=>⟨x,t.f1,t.f2,t.f3,t.f4,t.f5,t.f6,t.f7,t.f8,t.f9,t.f10,t.f11,t.f12,t.f13,t.f14,t.f15⟩⟩
def dg1:Dg:=⟨fun _ t=>t.f1,fun _ x t=>⟨t.f0,x,t.f2,t.f3,t.f4,t.f5,t.f6,t.f7,t.f8,t.f9,t.f10,t.f11,t.f12,t.f13,t.f14,t.f15⟩⟩
def dg2:Dg:=⟨fun _ t=>t.f2,fun _ x t=>⟨t.f0,t.f1,x,t.f3,t.f4,t.f5,t.f6,t.f7,t.f8,t.f9,t.f10,t.f11,t.f12,t.f13,t.f14,t.f15⟩⟩
def dg3:Dg:=⟨fun _ t=>t.f3,fun _ x t=>⟨t.f0,t.f1,t.f2,x,t.f4,t.f5,t.f6,t.f7,t.f8,t.f9,t.f10,t.f11,t.f12,t.f13,t.f14,t.f15⟩⟩
def dg4:Dg:=⟨fun _ t=>t.f4,fun _ x t=>⟨t.f0,t.f1,t.f2,t.f3,x,t.f5,t.f6,t.f7,t.f8,t.f9,t.f10,t.f11,t.f12,t.f13,t.f14,t.f15⟩⟩
def dg5:Dg:=⟨fun _ t=>t.f5,fun _ x t=>⟨t.f0,t.f1,t.f2,t.f3,t.f4,x,t.f6,t.f7,t.f8,t.f9,t.f10,t.f11,t.f12,t.f13,t.f14,t.f15⟩⟩
def dg6:Dg:=⟨fun _ t=>t.f6,fun _ x t=>⟨t.f0,t.f1,t.f2,t.f3,t.f4,t.f5,x,t.f7,t.f8,t.f9,t.f10,t.f11,t.f12,t.f13,t.f14,t.f15⟩⟩
def dg7:Dg:=⟨fun _ t=>t.f7,fun _ x t=>⟨t.f0,t.f1,t.f2,t.f3,t.f4,t.f5,t.f6,x,t.f8,t.f9,t.f10,t.f11,t.f12,t.f13,t.f14,t.f15⟩⟩
def dg8:Dg:=⟨fun _ t=>t.f8,fun _ x t=>⟨t.f0,t.f1,t.f2,t.f3,t.f4,t.f5,t.f6,t.f7,x,t.f9,t.f10,t.f11,t.f12,t.f13,t.f14,t.f15⟩⟩
def dg9:Dg:=⟨fun _ t=>t.f9,fun _ x t=>⟨t.f0,t.f1,t.f2,t.f3,t.f4,t.f5,t.f6,t.f7,t.f8,x,t.f10,t.f11,t.f12,t.f13,t.f14,t.f15⟩⟩
def dp6:Dg:=⟨fun _ t=>t.f10,fun _ x t=>⟨t.f0,t.f1,t.f2,t.f3,t.f4,t.f5,t.f6,t.f7,t.f8,t.f9,x,t.f11,t.f12,t.f13,t.f14,t.f15⟩⟩
def dp7:Dg:=⟨fun _ t=>t.f11,fun _ x t=>⟨t.f0,t.f1,t.f2,t.f3,t.f4,t.f5,t.f6,t.f7,t.f8,t.f9,t.f10,x,t.f12,t.f13,t.f14,t.f15⟩⟩
def dp8:Dg:=⟨fun _ t=>t.f12,fun _ x t=>⟨t.f0,t.f1,t.f2,t.f3,t.f4,t.f5,t.f6,t.f7,t.f8,t.f9,t.f10,t.f11,x,t.f13,t.f14,t.f15⟩⟩
def dp9:Dg:=⟨fun _ t=>t.f13,fun _ x t=>⟨t.f0,t.f1,t.f2,t.f3,t.f4,t.f5,t.f6,t.f7,t.f8,t.f9,t.f10,t.f11,t.f12,x,t.f14,t.f15⟩⟩
def dq0:Dg:=⟨fun _ t=>t.f14,fun _ x t=>⟨t.f0,t.f1,t.f2,t.f3,t.f4,t.f5,t.f6,t.f7,t.f8,t.f9,t.f10,t.f11,t.f12,t.f13,x,t.f15⟩⟩
def dq1:Dg:=⟨fun _ t=>t.f15,fun _ x t=>⟨t.f0,t.f1,t.f2,t.f3,t.f4,t.f5,t.f6,t.f7,t.f8,t.f9,t.f10,t.f11,t.f12,t.f13,t.f14,x⟩⟩
def ck2(n:Nat):Dg:=bif Nat.ble 8 n then(bif Nat.ble 12 n then(bif Nat.ble 14 n then(bif Nat.ble 15 n then dq1 else dq0)else(bif Nat.ble 13 n then dp9 else dp8))else(bif Nat.ble 10 n then(bif Nat.ble 11 n then dp7 else dp6)else(bif Nat.ble 9 n then dg9 else dg8)))else(bif Nat.ble 4 n then(bif Nat.ble 6 n then(bif Nat.ble 7 n then dg7 else dg6)else(bif Nat.ble 5 n then dg5 else dg4))else(bif Nat.ble 2 n then(bif Nat.ble 3 n then dg3 else dg2)else(bif Nat.ble 1 n then dg1 else dg0)))
def P16.const{α:Type}(x:α):P16 α:=⟨x,x,x,x,x,x,x,x,x,x,x,x,x,x,x,x⟩
inductive Val where
 |vi (n:Int)
 |vs (l:List UInt8)
 |vb (x:Bool)
 |vl (r:List Val)
 deriving Inhabited
def Val.toI:Val→Int
 | .vi n=>n
 |_=>0
def Val.toS:Val→List UInt8
 | .vs l=>l
 |_=>[]
def Val.toB:Val→Bool
 | .vb x=>x
 |_=>false
def Val.toL:Val→List Val
 | .vl r=>r
 |_=>[]
inductive CT where
 |int (k:IntKind)
 |str
 |bool
 deriving DecidableEq
inductive Prim where
 |ar (op:BinOp) (k:IntKind)
 |cmp (op:BinOp)
 |scmp (op:BinOp)
 |cat
 |not
 |and
 |or
 |beq
 |ite
 |un (op:UnOp) (k:IntKind)
 |conv (k:IntKind)
 |slen
 |sat
 |ssub
 |llen
 |lget
 |lset
 |lcat
 |lsub
 |row
 |imin
 |imax
 |iadd
 |isub
 |sbytes
 |bstr
 |bok
 |mfind (ks:List CT)
 |mdel (ks:List CT)
 |lrep
 |scnt
 |sidx
 deriving DecidableEq
inductive SX where
 |ci (n:Int)
 |cs (l:List UInt8)
 |cb (x:Bool)
 |va (n:Nat)
 |op (p:Prim) (l:List SX)
 |app (f:Nat) (l:List SX)
 deriving Inhabited
inductive AV where
 |bool (b:Bool)
 |int (k:IntKind) (n:Int)
 |str (s:List UInt8)
 |nilp
 |ptr (b o:Nat)
 |glob (g:Nat)
 |nils
 |sl (b o len cap:Nat)
 |us (b o len sz:Nat)
 |es (b o sz:Nat)
 |es0
 |nilm
 |map (r:Nat)
 |nilf
 |func (fn:Fn) (first cap:List AV)
 |yield (l:Nat)
 |nili
 |iface (t:Nat) (v:AV)
 |agg (cs:List AV)
 |tup (vs:List AV)
 |opq (n:Nat)
 |oint (k:IntKind) (e:SX)
 |ostr (e:SX)
 |obool (e:SX)
 |osl (b:Nat) (off len:SX) (sz:Nat)
 |optr (b:Nat) (idx:SX) (j sz:Nat)
 |ous (b:Nat) (len:SX) (sz:Nat)
 |atl (n:Nat)
 |any
 deriving Inhabited
def AV.undef:AV:= .tup []
def da6:List UInt8→List UInt8→Bool
 | [],[]=>true
 |a::x,b::y=>bif Nat.beq a.toNat b.toNat then da6 x y else false
 |_,_=>false
def da7:Int→Int→Bool
 | .ofNat a,.ofNat b=>Nat.beq a b
 | .negSucc a,.negSucc b=>Nat.beq a b
 |_,_=>false
mutual
def SX.beq:SX→SX→Bool
 | .ci a,.ci b=>da7 a b
 | .cs a,.cs b=>da6 a b
 | .cb a,.cb b=>a==b
 | .va a,.va b=>Nat.beq a b
 | .op p a,.op q b=>decide (p=q)&&SX.beqs a b
 | .app p a,.app q b=>Nat.beq p q&&SX.beqs a b
 |_,_=>false
def SX.beqs:List SX→List SX→Bool
 | [],[]=>true
 |a::x,b::y=>SX.beq a b&&SX.beqs x y
 |_,_=>false
end
abbrev TF:=P16 (P16 AV)
structure PF where
 g:TF→AV
 s:AV→TF→TF
def de1(x y:Dg):PF:=⟨fun t=>y.g _ (x.g _ t),fun v t=>x.s _ (y.s _ v (x.g _ t)) t⟩
def dn3:PF:=⟨fun _=> .undef,fun _ t=>t⟩
def cW5(n:Nat):PF:=bif Nat.blt n 256 then de1 (ck2 (n/16)) (ck2 (n % 16))else dn3
def TF.get(t:TF)(n:Nat):AV:=(cW5 n).g t
def TF.set(t:TF)(n:Nat)(v:AV):TF:=(cW5 n).s v t
def dn4:P16 AV:=P16.const .undef
def TF.empty:TF:=P16.const dn4
inductive ADef where
 |coll (b:Nat)
 |fn (f:FuncId) (cap args:List AV)
structure Ent where
 key:AV
 val:AV
 born:Nat
def aV8:Nat:=4294967295
inductive Blk where
 |cells (elem fz:Nat) (cs:List AV)
 |arr (elem:Nat) (sig:List CT) (l:SX)
 |map (es:List Ent) (clock:Nat)
 |marr (d:Bool) (ks vs:List CT) (l:SX)
 |bag (elem:Nat) (sig:List CT) (l:SX)
 |mrg (it:Nat) (d:Bool) (ks vs:List CT) (l:SX)
 |mit (m:Nat)
 |vec (cs:List AV)
 |strIter (s:List UInt8) (pos:Nat)
 |mapIter (m:Option Nat) (since:Nat) (seen:List Nat) (stepped:Nat)
 |loop (st:LoopState) (pending:Option Code) (fn:FuncId) (tm:TF) (nt:Nat) (params:Array Tmp) (assign body:Code) (defers:Nat)
 |defd (taken:Bool)
abbrev TH:=P16 (P16 (P16 (P16 (Option Blk))))
structure PH where
 g:TH→Option Blk
 s:Option Blk→TH→TH
def de2(x y z u:Dg):PH:=⟨fun t=>u.g _ (z.g _ (y.g _ (x.g _ t))),
 fun v t=>x.s _ (y.s _ (z.s _ (u.s _ v (z.g _ (y.g _ (x.g _ t)))) (y.g _ (x.g _ t))) (x.g _ t)) t⟩
def da8:PH:=⟨fun _=>none,fun _ t=>t⟩
def cl3(n:Nat):PH:=bif !(Nat.blt n 65536)then da8 else de2 (ck2 (n/4096)) (ck2 (n/256 % 16)) (ck2 (n/16 % 16)) (ck2 (n % 16))
structure Heap where
 t:TH
 next:Nat
 wm:Nat
def cW6:P16 (Option Blk):=P16.const none
def cl4:P16 (P16 (Option Blk)):=P16.const cW6
def cl5:P16 (P16 (P16 (Option Blk))):=P16.const cl4
def a87(b:Nat)(t:TH)(_ _:Nat):Option Blk:=(cl3 b).g t
def dq2(b:Nat)(x:Option Blk)(t:TH)(next wm:Nat):Heap:=⟨(cl3 b).s x t,next,wm⟩
def bb5(x:Blk)(t:TH)(next wm:Nat):Heap:=⟨(cl3 next).s (some x) t,next+1,wm⟩
def Heap.get(h:Heap)(b:Nat):Option Blk:=Heap.rec (a87 b) h
def Heap.put(h:Heap)(b:Nat)(x:Option Blk):Heap:=Heap.rec (dq2 b x) h
def Heap.new(h:Heap)(x:Blk):Heap:=Heap.rec (bb5 x) h
def Heap.empty:Heap:=⟨P16.const cl5,0,0⟩
def ae2(P:Program)(t:TypeId):Option Nat:=(P.info? t).map (·.size)
def cW7(P:Program)(t:TypeId):Option Bool:=(P.underlying t).map fun
 | .struct _| .array _ _=>true
 |_=>false
def aJ0:Value→Option AV
 | .bool b=>some (.bool b)
 | .int k n=>some (.int k n)
 | .string s=>some (.str s.data.toList)
 | .pointer none=>some .nilp
 | .slice none 0 0=>some .nils
 | .map none=>some .nilm
 | .nilFunc=>some .nilf
 | .nilIface=>some .nili
 |_=>none
def bn8:Value→Option AV
 | .agg cs=>(cs.toList.mapM aJ0).map .agg
 | .tuple vs=>match vs.toList with
   | []=>some .undef
   |_=>none
 |v=>aJ0 v
def a10(P:Program)(t:TypeId):Option AV:=((P.info? t).bind (·.zero)).bind bn8
def AV.cells:AV→List AV
 | .agg cs=>cs
 |v=>[v]
def AV.nt:AV→Bool
 | .tup _=>false
 | .any=>false
 |_=>true
def AV.one:AV→Bool
 | .agg _| .tup _| .any=>false
 |_=>true
def AV.oneA:AV→Bool
 | .agg _| .tup _=>false
 |_=>true
def aJ1:Int→Int→Bool
 | .ofNat a,.ofNat b=>Nat.blt a b
 | .negSucc _,.ofNat _=>true
 | .ofNat _,.negSucc _=>false
 | .negSucc a,.negSucc b=>Nat.blt b a
def bz2:Int→Int→Bool
 | .ofNat a,.ofNat b=>Nat.beq a b
 | .negSucc a,.negSucc b=>Nat.beq a b
 |_,_=>false
def cl6:IntKind→Nat
 | .i8=>128| .i16=>32768| .i32=>2147483648| .i64=>9223372036854775808
 | .u8=>256| .u16=>65536| .u32=>4294967296| .u64=>18446744073709551616
def at3(k:IntKind)(n:Int):Int:=match n with
 | .ofNat m=>bif Nat.blt m (cl6 k)then .ofNat m else k.wrap (.ofNat m)
 | .negSucc m=>k.wrap (.negSucc m)
def af6:Int→Option Nat
 | .ofNat n=>some n
 | .negSucc _=>none
def aU2(op:BinOp)(k:IntKind)(x y:Int):Option AV:=
 match op with
 | .add=>some (.int k (at3 k (x+y)))
 | .sub=>some (.int k (at3 k (x-y)))
 | .mul=>some (.int k (at3 k (x*y)))
 | .quo=>bif bz2 y 0 then none else some (.int k (at3 k (x.tdiv y)))
 | .rem=>bif bz2 y 0 then none else some (.int k (x.tmod y))
 | .and=>some (.int k (at3 k ((BitVec.ofInt k.bits x&&&BitVec.ofInt k.bits y).toNat)))
 | .or=>some (.int k (at3 k ((BitVec.ofInt k.bits x|||BitVec.ofInt k.bits y).toNat)))
 | .xor=>some (.int k (at3 k ((BitVec.ofInt k.bits x^^^BitVec.ofInt k.bits y).toNat)))
 | .andNot=>some (.int k (at3 k ((BitVec.ofInt k.bits x&&& ~~~(BitVec.ofInt k.bits y)).toNat)))
 | .eql=>some (.bool (bz2 x y))
 | .neq=>some (.bool (!bz2 x y))
 | .lss=>some (.bool (aJ1 x y))
 | .leq=>some (.bool (!aJ1 y x))
 | .gtr=>some (.bool (aJ1 y x))
 | .geq=>some (.bool (!aJ1 x y))
 |_=>none
def aV9(op:BinOp)(k:IntKind)(x y:Int):Option AV:=
 match af6 y with
 |none=>none
 |some y=>
  let n:=min y k.bits
  match op with
  | .shl=>some (.int k (at3 k (x*2^n)))
  | .shr=>some (.int k (match x with| .ofNat m=> .ofNat (m/2^n)| .negSucc m=>(Int.negSucc m).fdiv (2^n)))
  |_=>none
def dq3(a:UInt8)(ih:List UInt8→Bool)(y:List UInt8):Bool:=match y with
 | []=>false
 |b::y=>bif Nat.beq a.toNat b.toNat then ih y else false
def cF3(x:List UInt8):List UInt8→Bool:=List.rec (motive:=fun _=>List UInt8→Bool) List.isEmpty (fun a _=>dq3 a) x
def ltN(y:List UInt8):Bool:=match y with
 | []=>false
 |_::_=>true
def ltS(a:UInt8)(ih:List UInt8→Bool)(y:List UInt8):Bool:=match y with
 | []=>false
 |b::y=>bif Nat.blt a.toNat b.toNat then true else bif Nat.beq a.toNat b.toNat then ih y else false
def ltB(x:List UInt8):List UInt8→Bool:=List.rec (motive:=fun _=>List UInt8→Bool) ltN (fun a _=>ltS a) x
def aW0:Nat:=4294967296
def bL4(op:BinOp)(x y:List UInt8):Option AV:=
 match op with
 | .add=>bif Nat.blt (x.length+y.length) aW0 then some (.str (x++y))else none
 | .eql=>some (.bool (cF3 x y))
 | .neq=>some (.bool (!cF3 x y))
 | .lss=>some (.bool (ltB x y))
 | .leq=>some (.bool (!ltB y x))
 | .gtr=>some (.bool (ltB y x))
 | .geq=>some (.bool (!ltB x y))
 |_=>none
def bb6:AV→Option Bool
 | .nils=>some true
 | .sl _ _ _ _=>some false
 | .us _ _ _ _=>some false
 | .es _ _ _=>some false
 | .es0=>some false
 |_=>none
def bz3:AV→Option Bool
 | .nilm=>some true
 | .map _=>some false
 |_=>none
def bz4:AV→Option Bool
 | .nilf=>some true
 | .func _ _ _=>some false
 | .yield _=>some false
 |_=>none
def ah7(P:Program)(t:TypeId)(cs:List AV)(off:Nat):Option AV:=
 match cW7 P t,ae2 P t with
 |some true,some n=>bif Nat.ble (off+n) cs.length then some (.agg ((cs.drop off).take n))else none
 |some false,some _=>cs[off]?
 |_,_=>none
def ab9(P:Program)(ih:TypeId→AV→AV→Option Bool)(xs ys:List AV):List Field→Option Bool
 | []=>some true
 |f::r=>bif f.name== "_" then ab9 P ih xs ys r else match ah7 P f.type xs f.offset,ah7 P f.type ys f.offset with
  |some a,some b=>match ih f.type a b with
   |some true=>ab9 P ih xs ys r
   |x=>x
  |_,_=>none
def aJ2(P:Program)(ih:TypeId→AV→AV→Option Bool)(e n:Nat)(xs ys:List AV):Nat→Nat→Option Bool
 |0,_=>some true
 |k+1,i=>match ah7 P e xs (i*n),ah7 P e ys (i*n)with
  |some a,some b=>match ih e a b with
   |some true=>aJ2 P ih e n xs ys k (i+1)
   |x=>x
  |_,_=>none
def cW8(P:Program)(e a o b o':Nat):Option Bool:=match ae2 P e with
 |some (_+1)=>bif Nat.beq a b then some (Nat.beq o o')else none
 |_=>none
def a84(P:Program)(ih:TypeId→AV→AV→Option Bool)(t:TypeId)(x y:AV):Option Bool:=
 match P.underlying t with
 |some .bool=>match x,y with
  | .bool a,.bool b=>some (a==b)
  |_,_=>none
 |some (.int _)=>match x,y with
  | .int k a,.int k' b=>if k=k' then some (bz2 a b)else none
  | .oint k a,.oint k' b=>if k=k' then(bif SX.beq a b then some true else none)else none
  |_,_=>none
 |some .string=>match x,y with
  | .str a,.str b=>some (cF3 a b)
  | .ostr a,.ostr b=>bif SX.beq a b then some true else none
  |_,_=>none
 |some (.pointer e)=>match x,y with
  | .nilp,.nilp=>some true
  | .nilp,.ptr _ _=>some false
  | .ptr _ _,.nilp=>some false
  | .ptr a o,.ptr b o'=>cW8 P e a o b o'
  |_,_=>none
 |some (.interface _)=>match x,y with
  | .nili,.nili=>some true
  | .nili,.iface _ _=>some false
  | .iface _ _,.nili=>some false
  | .iface tx vx,.iface ty vy=>bif Nat.beq tx ty then(match P.info? tx with
      |some i=>bif i.comparable then ih tx vx vy else none
      |none=>none)
    else some false
  |_,_=>none
 |some (.slice _)=>match x,y with
  | .nils,b=>bb6 b
  |a,.nils=>bb6 a
  |_,_=>none
 |some (.map _ _)=>match x,y with
  | .nilm,b=>bz3 b
  |a,.nilm=>bz3 a
  |_,_=>none
 |some (.func _ _ _)=>match x,y with
  | .nilf,b=>bz4 b
  |a,.nilf=>bz4 a
  |_,_=>none
 |some (.struct fields)=>match x,y with
  | .agg xs,.agg ys=>bif P.stoodInHeld t then none else ab9 P ih xs ys fields.toList
  |_,_=>none
 |some (.array len elem)=>match x,y with
  | .agg xs,.agg ys=>match ae2 P elem with
    |none=>none
    |some n=>aJ2 P ih elem n xs ys len 0
  |_,_=>none
 |_=>none
def dq4(_:TypeId)(_ _:AV):Option Bool:=none
def eqE(P:Program)(n:Nat):TypeId→AV→AV→Option Bool:=Nat.rec (motive:=fun _=>TypeId→AV→AV→Option Bool) dq4 (fun _=>a84 P) n
def ai0:Operand→Bool
 | .const _=>true
 |_=>false
def bT0(P:Program)(t:TypeId)(x y:Operand)(a b:AV):Bool:=
 match a with
 | .nili=>ai0 x||ai0 y||(match b with
   | .nili=>false
   | .opq _=>false
   | .any=>false
   |_=>true)
 | .any=>false
 | .agg _=> !(P.eqGuardType P.depth t)
 | .opq _=>false
 |_=>true
def aq5(P:Program)(op:BinOp)(t:TypeId)(x y:Operand)(a b:AV):Bool:=
 match op with
 | .eql| .neq=>bT0 P t x y a b
 |_=>true
def dn5(op:BinOp)(k k':IntKind)(a b:Int):Option AV:=match op with
 | .shl=>aV9 .shl k a b
 | .shr=>aV9 .shr k a b
 |op=>if k=k' then aU2 op k a b else none
def cl7(P:Program)(op:BinOp)(t:TypeId)(x y:AV):Option AV:=match op with
 | .eql=>(eqE P 10000 t x y).map .bool
 | .neq=>(eqE P 10000 t x y).map fun b=> .bool (!b)
 |_=>none
def de3(op:BinOp)(k:IntKind)(a:Int)(n:Nat):Option AV:=match op,k with
 | .gtr,.i64=>bif aJ1 (.ofNat n) a then none else some (.bool false)
 |_,_=>none
def da9(P:Program)(op:BinOp)(t:TypeId)(x y:AV):Option AV:=
 match x with
 | .int k a=>match y with
   | .int k' b=>dn5 op k k' a b
   | .atl n=>de3 op k a n
   |_=>none
 | .str a=>match y with
   | .str b=>bL4 op a b
   |_=>none
 |x=>cl7 P op t x y
def unE(op:UnOp)(x:AV):Option AV:=
 match op,x with
 | .neg,.int k n=>some (.int k (at3 k (0-n)))
 | .xor,.int k n=>aU2 .xor k (if k.signed then-1 else k.max) n
 | .not,.bool b=>some (.bool !b)
 |_,_=>none
def bT1(P:Program)(t:TypeId)(a:AV)(h:Heap):Option AV:=
 match a with
 | .ptr b o=>match h.get b with
   |some (.cells _ _ cs)=>ah7 P t cs o
   |_=>none
 |_=>none
def ah4(cs:List AV)(o:Nat)(vs:List AV):List AV:=cs.take o++vs++cs.drop (o+vs.length)
def putCells(h:Heap)(b o:Nat)(vs:List AV):Option Heap:=
 match vs with
 | []=>some h
 |vs=>match h.get b with
  |some (.cells e fz cs)=>
   bif Nat.ble h.wm b&&Nat.ble fz o&&Nat.ble (o+vs.length) cs.length&&vs.all AV.one then some (h.put b (some (.cells e fz (ah4 cs o vs))))else none
  |_=>none
def bb7(P:Program)(t:TypeId)(a v:AV)(h:Heap):Option Heap:=
 match a,ae2 P t with
 | .ptr b o,some n=>bif v.nt&&Nat.beq v.cells.length n then putCells h b o v.cells else none
 |_,_=>none
def az2(t:TypeId)(v:AV)(h:Heap):Option (AV×Heap):=
 bif v.cells.all AV.one then some (.ptr h.next 0,h.new (.cells t 0 v.cells))else none
def bn9(place:Nat→Option (Nat×Nat))(cells:List AV):List (Nat×AV)→Option (List AV)
 | []=>some cells
 |(i,v)::rest=>
  match place i with
  |none=>none
  |some (off,size)=>bif v.nt&&(Nat.beq v.cells.length size&&Nat.ble (off+v.cells.length) cells.length)then bn9 place (ah4 cells off v.cells) rest else none
def bT2(P:Program)(t:TypeId)(parts:List (Nat×AV)):Option AV:=
 match a10 P t,P.underlying t with
 |some z,some (.struct fields)=>(bn9 (fun i=>(fields[i]?).bind fun f=>(ae2 P f.type).map fun s=>(f.offset,s)) z.cells parts).bind fun cs=>
  bif fields.all (fun f=>(ae2 P f.type).isSome)&&z.nt then some (.agg cs)else none
 |some z,some (.array _ elem)=>match ae2 P elem with
  |some s=>bif z.nt then(bn9 (fun i=>some (i*s,s)) z.cells parts).map .agg else none
  |none=>none
 |_,_=>none
def rep:Nat→List AV→List AV
 |0,_=>[]
 |n+1,l=>l++rep n l
def a19(P:Program)(t:TypeId)(len:Nat)(parts:List (Nat×AV))(h:Heap):Option (AV×Heap):=
 match P.underlying t with
 |some (.slice elem)=>match ae2 P elem,a10 P elem with
  |some s,some z=>bif Nat.beq z.cells.length s&&Nat.blt 0 s&&Nat.ble (len*s) 1000000 then
   match bn9 (fun i=>some (i*s,s)) (rep len z.cells) parts with
   |some cs=>bif cs.all AV.one then some (.sl h.next 0 len len,h.new (.cells elem 0 cs))else none
   |none=>none
   else none
  |_,_=>none
 |_=>none
def a44(P:Program)(t:TypeId)(l c:AV)(h:Heap):Option (AV×Heap):=
 match P.underlying t,l,c with
 |some (.slice elem),.int _ l,.int _ c=>match af6 l,af6 c,ae2 P elem,a10 P elem,P.info? elem with
  |some l,some c,some s,some z,some i=>
   bif Nat.ble l c&&Nat.ble c 1000000&&Nat.ble i.bytes 1000&&Nat.beq z.cells.length s&&Nat.blt 0 s&&z.cells.all AV.one then some (.sl h.next 0 l c,h.new (.cells elem 0 (rep c z.cells)))else none
  |_,_,_,_,_=>none
 |_,_,_=>none
def al5(P:Program)(s:TypeId)(a:AV)(f:Nat):Option AV:=
 match P.underlying s,a with
 |some (.struct fields),.ptr b o=>match fields[f]? with
  |some f=>match ae2 P f.type with
   |some (_+1)=>some (.ptr b (o+f.offset))
   |_=>none
  |none=>none
 |_,_=>none
def bz5(P:Program)(t:TypeId)(x:AV)(f:Nat):Option AV:=
 match P.underlying t,x with
 |some (.struct fields),.agg cs=>(fields[f]?).bind fun f=>ah7 P f.type cs f.offset
 |_,_=>none
def az3(P:Program)(t:TypeId)(x i:AV):Option AV:=
 match i with
 | .int _ i=>match af6 i,P.underlying t,x with
   |some i,some (.array len elem),.ptr b o=>match ae2 P elem with
    |some s=>bif Nat.blt i len then some (.ptr b (o+i*s))else none
    |none=>none
   |some i,some (.slice elem),.sl b o len _=>match ae2 P elem with
    |some s=>bif Nat.blt i len then some (.ptr b (o+i*s))else none
    |none=>none
   |some i,some (.slice elem),.us b o len _=>match ae2 P elem with
    |some s=>bif Nat.blt i len then some (.ptr b (o+i*s))else none
    |none=>none
   |_,_,_=>none
 |_=>none
def bT3(P:Program)(t:TypeId)(x i:AV):Option AV:=
 match i with
 | .int _ i=>match af6 i,P.underlying t,x with
   |some i,some (.array len elem),.agg cs=>match ae2 P elem with
    |some s=>bif Nat.blt i len then ah7 P elem cs (i*s)else none
    |none=>none
   |some i,some .string,.str s=>(s[i]?).map fun b=> .int .u8 b.toNat
   |_,_,_=>none
 |_=>none
def a01(x:Option AV)(d:Nat):Option Nat:=
 match x with
 |none=>some d
 |some (.int _ i)=>af6 i
 |some _=>none
def bT4(P:Program)(t:TypeId)(x:AV)(lo hi mx:Option AV)(h:Heap):Option AV:=
 match P.underlying t,x with
 |some .string,.str s=>match a01 lo 0,a01 hi s.length,mx with
  |some l,some e,none=>bif Nat.ble l e&&Nat.ble e s.length then some (.str ((s.drop l).take (e-l)))else none
  |_,_,_=>none
 |some (.slice elem),.nils=>match a01 lo 0,a01 hi 0,a01 mx 0,ae2 P elem with
  |some 0,some 0,some 0,some _=>some .nils
  |_,_,_,_=>none
 |some (.slice elem),.es b o sz=>match a01 lo 0,a01 hi 0,mx,ae2 P elem with
  |some 0,some 0,none,some _=>some (.es b o sz)
  |some 0,some 0,some m,some _=>match a01 (some m) 0 with
   |some 0=>some .es0
   |_=>none
  |_,_,_,_=>none
 |some (.slice elem),.es0=>match a01 lo 0,a01 hi 0,a01 mx 0,ae2 P elem with
  |some 0,some 0,some 0,some _=>some .es0
  |_,_,_,_=>none
 |some (.slice elem),.sl b o len cap=>match a01 lo 0,a01 hi len,a01 mx cap,ae2 P elem with
  |some l,some e,some m,some s=>bif Nat.ble l e&&Nat.ble e m&&Nat.ble m cap then some (.sl b (bif Nat.beq m l then o else o+l*s) (e-l) (m-l))else none
  |_,_,_,_=>none
 |some (.slice elem),.us b o len sz=>match a01 lo 0,a01 hi len,ae2 P elem,h.get b with
  |some l,some e,some s,some (.cells _ _ cs)=>bif Nat.beq s sz&&Nat.ble l e&&Nat.blt 0 s&&Nat.ble (o+e*s) cs.length then
   (match mx with
   |none=>bif Nat.blt (o+l*s) cs.length||Nat.beq l 0 then some (.us b (o+l*s) (e-l) sz)else some (.es b (o+l*s) sz)
   |some m=>match a01 (some m) 0 with
    |some m=>bif Nat.ble e m&&Nat.ble (o+m*s) cs.length then some (.sl b (bif Nat.beq m l then o else o+l*s) (e-l) (m-l))else none
    |none=>none)
   else none
  |_,_,_,_=>none
 |some (.array n elem),.ptr b o=>match a01 lo 0,a01 hi n,a01 mx n,ae2 P elem with
  |some l,some e,some m,some s=>bif Nat.ble l e&&Nat.ble e m&&Nat.ble m n then some (.sl b (bif Nat.beq m l then o else o+l*s) (e-l) (m-l))else none
  |_,_,_,_=>none
 |_,_=>none
def ac0(s n:Nat)(x:AV)(h:Heap):Option (List AV):=
 match x with
 | .nils=>bif Nat.beq n 0 then some []else none
 | .es _ _ _| .es0=>bif Nat.beq n 0 then some []else none
 | .str l=>some ((l.take n).map fun b=> .int .u8 b.toNat)
 | .sl b o _ _| .us b o _ _=>match h.get b with
   |some (.cells _ _ cs)=>bif Nat.ble (o+n*s) cs.length&&((cs.drop o).take (n*s)).all AV.one then some ((cs.drop o).take (n*s))else none
   |_=>none
 |_=>none
def aD3:AV→Option Nat
 | .nils| .es _ _ _| .es0=>some 0
 | .str l=>some l.length
 | .sl _ _ n _| .us _ _ n _=>some n
 |_=>none
def room:Nat:=1000000
def db0(s:Nat)(y:AV)(h:Heap):Option (Nat×List AV):=
 match aD3 y with
 |some n=>(ac0 s n y h).bind fun l=>bif Nat.beq l.length (n*s)then some (n,l)else none
 |none=>none
def dn6(z:List AV)(y:AV):Option (Nat×List AV):=
 match y with
 | .int _ m=>match af6 m with
   |some n=>bif Nat.ble n room&&z.all AV.one&&Nat.blt 0 z.length then some (n,rep n z)else none
   |none=>none
 |_=>none
def de4(P:Program)(yt:TypeId)(s:Nat)(z:List AV)(y:AV)(h:Heap):Option (Nat×List AV):=
 match P.underlying yt with
 |some (.slice _)=>db0 s y h
 |some .string=>db0 s y h
 |some (.int _)=>dn6 z y
 |_=>none
def b03(elem s:Nat)(x:AV)(n:Nat)(new:List AV)(h:Heap):Option (AV×Heap):=
 match x with
 | .nils=>some (.us h.next 0 n s,h.new (.cells elem 0 new))
 | .es0=>some (.us h.next 0 n s,h.new (.cells elem 0 new))
 | .sl b o len cap=>
   bif Nat.ble (len+n) cap then(putCells h b (o+len*s) new).map fun h'=>(.sl b o (len+n) cap,h')
   else(ac0 s len x h).bind fun old=>bif Nat.beq old.length (len*s)then some (.us h.next 0 (len+n) s,h.new (.cells elem 0 (old++new)))else none
 | .us b o len sz=>bif !(Nat.beq s sz)then none else match h.get b with
   |some (.cells e fz cs)=>
    bif Nat.ble (o+(len+n)*s) cs.length then(putCells h b (o+len*s) new).map fun h'=>(.us b o (len+n) s,h')
    else bif Nat.ble h.wm b&&Nat.ble fz (o+len*s)&&Nat.ble (o+len*s) cs.length&&Nat.beq e elem then
     some (.us h.next 0 (len+n) s,(h.put b none).new (.cells e (fz-o) ((cs.drop o).take (len*s)++new)))
    else none
   |_=>none
 | .es b o sz=>bif !(Nat.beq s sz)then none else match h.get b with
   |some (.cells e fz cs)=>
    bif Nat.ble h.wm b&&Nat.ble fz o&&Nat.beq e elem then some (.us h.next 0 n s,(h.put b none).new (.cells e 0 new))else none
   |_=>none
 |_=>none
def bo0(s:Nat)(x:AV)(h:Heap):Bool:=
 match x with
 | .nils=>true
 | .es _ _ _=>true
 | .es0=>true
 | .sl _ _ l c=>Nat.ble l c
 | .us b o l sz=>Nat.beq s sz&&(match h.get b with
   |some (.cells _ _ cs)=>Nat.ble (o+l*s) cs.length
   |_=>false)
 |_=>false
def aG2(P:Program)(t:TypeId):Bool:=match P.underlying t with
 |some (.struct fs)=>match fs[0]? with
  |some f=>match P.underlying f.type with
   |some (.pointer u)=>Nat.beq u t
   |_=>false
  |none=>false
 |_=>false
def bo1(P:Program)(argTypes:Array TypeId)(x y:AV)(h:Heap):Option (AV×Heap):=
 match(argTypes[0]?).bind P.underlying,argTypes[1]? with
 |some (.slice elem),some yt=>match aD3 x,P.info? elem,a10 P elem with
  |some lx,some i,some z=>
   match de4 P yt i.size z.cells y h with
   |none=>none
   |some (n,new)=>
    bif Nat.blt 0 i.size&&Nat.beq z.cells.length i.size&&Nat.ble (lx+n) room&&Nat.ble i.bytes 1000&&Nat.beq argTypes.size 2&& !(aG2 P elem)then
     (bif Nat.beq n 0 then(bif bo0 i.size x h then some (x,h)else none)else b03 elem i.size x n new h)
    else none
  |_,_,_=>none
 |_,_=>none
def cz2(x:AV)(n:Nat)(new:List AV)(h:Heap):Option (AV×Heap):=
 match x with
 | .nils=>some (.int .i64 n,h)
 | .es _ _ _=>some (.int .i64 n,h)
 | .es0=>some (.int .i64 n,h)
 | .sl b o _ _=>(putCells h b o new).map fun h'=>(.int .i64 n,h')
 | .us b o _ _=>(putCells h b o new).map fun h'=>(.int .i64 n,h')
 |_=>none
def cF4(P:Program)(argTypes:Array TypeId)(x y:AV)(h:Heap):Option (AV×Heap):=
 match(argTypes[0]?).bind P.underlying with
 |some (.slice elem)=>match ae2 P elem,aD3 x,aD3 y with
  |some s,some lx,some ly=>(ac0 s (Nat.min ly lx) y h).bind fun new=>cz2 x (Nat.min ly lx) new h
  |_,_,_=>none
 |_=>none
def bb8:AV→AV→Bool
 | .bool a,.bool b=>a==b
 | .int k a,.int k' b=>(k==k')&&bz2 a b
 | .str a,.str b=>cF3 a b
 |_,_=>false
def b04:List AV→List AV→Bool
 | [],[]=>true
 |a::x,b::y=>bb8 a b&&b04 x y
 |_,_=>false
def bT5:AV→AV→Bool
 | .agg xs,.agg ys=>b04 xs ys
 |x,y=>bb8 x y
end
end Go.Ev
