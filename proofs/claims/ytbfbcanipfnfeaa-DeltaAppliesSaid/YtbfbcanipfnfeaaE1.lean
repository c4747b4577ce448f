import GoSem.Step
set_option linter.unusedVariables false
namespace Go.Ev
open Go
abbrev a8:=@Option.some.injEq
abbrev b9:=@Nat.le_refl
abbrev d6:=@Bool.and_eq_true
abbrev d7:=@Prod.mk.injEq
abbrev d8:=@Nat.lt_or_ge
abbrev d9:=@List.getD_eq_getElem?_getD
abbrev e8:=@List.length_append
abbrev e9:=@List.length_take
abbrev i3:=@Nat.zero_add
abbrev i4:=@Bool.false_eq_true
abbrev i6:=@List.all_eq_true
abbrev j0:=@List.getElem?_eq_getElem
abbrev j3:=@List.getElem?_append_right
abbrev j4:=@Option.map_eq_some_iff
abbrev j5:=@List.getElem?_append_left
abbrev j6:=@Option.bind_eq_some_iff
abbrev j7:=@List.getElem?_eq_none
abbrev j8:=@Bool.or_eq_true
abbrev j9:=@List.map_cons
abbrev k5:=@Bool.false_and
abbrev k6:=@List.getElem?_eq_some_iff
abbrev k7:=@Array.getD_eq_getD_getElem?
abbrev k8:=@Nat.zero_le
abbrev k9:=@List.mem_map
abbrev l5:=@List.mem_cons
abbrev l6:=@List.length_drop
abbrev l7:=@Nat.add_mul
abbrev l8:=@Nat.add_assoc
abbrev l9:=@Bool.not_eq_true
abbrev m5:=@List.length_map
abbrev m6:=@Bool.not_eq_true'
abbrev m7:=@Nat.le_trans
abbrev m8:=@List.getD_cons_zero
abbrev m9:=@Bool.eq_iff_iff
abbrev n8:=@List.getElem?_take
abbrev n9:=@List.append_nil
abbrev o7:=@Nat.lt_of_lt_of_le
abbrev o8:=@Bool.not_true
abbrev o9:=@List.getElem?_drop
abbrev p7:=@Array.getElem?_eq_getElem
abbrev p8:=@List.take_append_drop
abbrev p9:=@Bool.and_true
abbrev q9:=@List.getD_cons_succ
abbrev r5:=@List.getElem?_map
abbrev r6:=@List.mem_range
abbrev r7:=@List.append_assoc
abbrev r8:=@List.map_append
abbrev r9:=@List.length_eq_zero_iff
abbrev s6:=@Array.getElem?_eq_none
abbrev s7:=@Bool.eq_false_or_eq_true
abbrev s8:=@List.mem_singleton
abbrev s9:=@List.length_set
abbrev t7:=@Nat.le_add_right
abbrev t8:=@Nat.mul_le_mul_right
abbrev u4:=@Array.toList_inj
abbrev u5:=@List.mem_flatMap
abbrev u9:=@List.any_eq_true
abbrev v8:=@List.eq_nil_of_length_eq_zero
abbrev w6:=@List.size_toArray
abbrev x5:=@List.mem_append
abbrev x6:=@Nat.sub_self
abbrev x7:=@Nat.min_eq_left
abbrev x8:=@List.mem_filter
abbrev x9:=@Nat.mul_comm
abbrev y5:=@List.pairwise_cons
abbrev y6:=@Nat.add_comm
abbrev y7:=@Nat.add_sub_cancel_left
abbrev y8:=@Array.ext'
abbrev y9:=@List.filter_cons
abbrev z8:=@List.flatMap_cons
abbrev A0:=@Bool.false_or
abbrev A1:=@Nat.le_of_mul_le_mul_right
abbrev A2:=@Bool.not_false
abbrev A3:=@List.cons.injEq
abbrev A4:=@Array.getElem?_setIfInBounds
abbrev A5:=@Nat.one_mul
abbrev A6:=@Bool.true_and
abbrev A7:=@Array.toList_modify
abbrev A8:=@Nat.le_of_not_lt
abbrev A9:=@List.mem_cons_self
abbrev B0:=@List.filter_append
abbrev B1:=@List.range'_succ
abbrev B2:=@List.all_append
abbrev B3:=@List.map_map
abbrev B4:=@List.map_congr_left
abbrev B5:=@Nat.zero_mul
abbrev B6:=@Array.toList_push
abbrev B7:=@List.mem_of_getElem?
abbrev B8:=@List.drop_zero
abbrev B9:=@Bool.or_false
abbrev C0:=@List.find?_range_eq_none
abbrev C1:=@Nat.min_eq_right
abbrev C3:=@List.mapM_cons
abbrev C4:=@List.forIn_cons
abbrev C5:=@List.getElem?_toArray
abbrev C6:=@List.any_eq_false
abbrev C7:=@List.take_length
abbrev C8:=@List.take_left
abbrev C9:=@List.drop_left
abbrev D0:=@Nat.beq_eq
abbrev D1:=@List.mem_cons_of_mem
abbrev D2:=@Bool.and_eq_false_iff
abbrev D3:=@Nat.lt_irrefl
abbrev D4:=@Nat.mul_div_le
abbrev D5:=@Nat.mul_assoc
abbrev D6:=@Nat.lt_trichotomy
abbrev D7:=@Array.getElem?_modify
abbrev D8:=@Array.getElem?_append_left
abbrev D9:=@Nat.mul_le_mul
abbrev E1:=@List.length_range
abbrev E2:=@List.take_of_length_le
abbrev E3:=@List.range_eq_range'
abbrev E4:=@List.map_nil
abbrev E5:=@List.ext_getElem?
abbrev E6:=@List.drop_of_length_le
abbrev E7:=@List.drop_eq_nil_of_le
abbrev E8:=@List.nodup_append
abbrev E9:=@Array.getElem?_eq_some_iff
abbrev F0:=@Nat.mul_le_mul_left
abbrev F5:=@Nat.le_succ_of_le
abbrev F6:=@Nat.ne_of_lt
abbrev F7:=@List.drop_append
abbrev F8:=@List.drop_take
abbrev F9:=@List.drop_drop
abbrev G0:=@List.ext_getElem
abbrev G1:=@Nat.eq_zero_or_pos
abbrev G2:=@List.cons.inj
abbrev G3:=@Array.size_append
abbrev G4:=@List.range_succ_eq_map
abbrev G5:=@List.flatMap_append
abbrev G6:=@List.range_succ
abbrev G7:=@List.getElem?_set
abbrev G8:=@List.map_set
abbrev G9:=@List.mem_append_left
abbrev I0:=@List.take_left'
abbrev I1:=@List.drop_left'
abbrev I2:=@Nat.max_eq_right
abbrev I3:=@List.pairwise_iff_getElem
abbrev I4:=@List.getElem_mem
abbrev I5:=@List.set_append
abbrev I6:=@Bool.not_eq_false'
abbrev I7:=@Bool.true_eq_false
abbrev I8:=@Nat.le_of_lt
abbrev I9:=@List.find?_eq_none
abbrev J0:=@Nat.lt_succ_of_lt
abbrev J1:=@Int.fdiv_eq_ediv_of_nonneg
abbrev J2:=@Nat.add_sub_cancel
abbrev J3:=@Array.foldl_toList
abbrev J4:=@Option.isSome_iff_exists
abbrev J5:=@Array.all_eq_true'
abbrev J6:=@List.mem_of_mem_take
abbrev J7:=@Array.toList_map
abbrev J8:=@Array.toList_eraseIdx
abbrev J9:=@Array.size_replicate
abbrev K0:=@List.mem_map_of_mem
abbrev K1:=@List.findIdx_eq_length
abbrev K2:=@Option.some.inj
abbrev K3:=@List.mem_append_right
abbrev K4:=@List.mem_or_eq_of_mem_set
abbrev K5:=@List.drop_eq_getElem_cons
abbrev K6:=@List.nodup_range
abbrev K7:=@List.getElem_of_mem
abbrev K8:=@Nat.max_eq_left
abbrev K9:=@List.nodup_cons
abbrev M3:=@List.take_add_one
abbrev M4:=@Nat.lt_mul_div_succ
abbrev M5:=@List.take_append_of_le_length
noncomputable section
structure P16 (α:Type)where
 f0:α
 f1:α
 f2:α
 f3:α
 f4:α
 f5:α
 f6:α
 f7:α
 f8:α
 f9:α
 f10:α
 f11:α
 f12:α
 f13:α
 f14:α
 f15:α
structure Dg where
 g:(α:Type)→P16 α→α
 s:(α:Type)→α→P16 α→P16 α
def dg0:Dg:=⟨fun _ t=>t.f0,fun _ x t=>⟨x,t.f1,t.f2,t.f3,t.f4,t.f5,t.f6,t.f7,t.f8,t.f9,t.f10,t.f11,t.f12,t.f13,t.f14,t.f15⟩⟩
def dg1:Dg:=⟨fun _ t=>t.f1,fun _ x t=>⟨t.f0,x,t.f2,t.f3,t.f4,t.f5,t.f6,t.f7,t.f8,t.f9,t.f10,t.f11,t.f12,t.f13,t.f14,t.f15⟩⟩
def dg2:Dg:=⟨fun _ t=>t.f2,fun _ x t=>⟨t.f0,t.f1,x,t.f3,t.f4,t.f5,t.f6,t.f7,t.f8,t.f9,t.f10,t.f11,t.f12,t.f13,t.f14,t.f15⟩⟩
def dg3:Dg:=⟨fun _ t=>t.f3,fun _ x t=>⟨t.f0,t.f1,t.f2,x,t.f4,t.f5,t.f6,t.f7,t.f8,t.f9,t.f10,t.f11,t.f12,t.f13,t.f14,t.f15⟩⟩
def dg4:Dg:=⟨fun _ t=>t.f4,fun _ x t=>⟨t.f0,t.f1,t.f2,t.f3,x,t.f5,t.f6,t.f7,t.f8,t.f9,t.f10,t.f11,t.f12,t.f13,t.f14,t.f15⟩⟩
def dg5:Dg:=⟨fun _ t=>t.f5,fun _ x t=>⟨t.f0,t.f1,t.f2,t.f3,t.f4,x,t.f6,t.f7,t.f8,t.f9,t.f10,t.f11,t.f12,t.f13,t.f14,t.f15⟩⟩
def dg6:Dg:=⟨fun _ t=>t.f6,fun _ x t=>⟨t.f0,t.f1,t.f2,t.f3,t.f4,t.f5,x,t.f7,t.f8,t.f9,t.f10,t.f11,t.f12,t.f13,t.f14,t.f15⟩⟩
def dg7:Dg:=⟨fun _ t=>t.f7,fun _ x t=>⟨t.f0,t.f1,t.f2,t.f3,t.f4,t.f5,t.f6,x,t.f8,t.f9,t.f10,t.f11,t.f12,t.f13,t.f14,t.f15⟩⟩
def dg8:Dg:=⟨fun _ t=>t.f8,fun _ x t=>⟨t.f0,t.f1,t.f2,t.f3,t.f4,t.f5,t.f6,t.f7,x,t.f9,t.f10,t.f11,t.f12,t.f13,t.f14,t.f15⟩⟩
def dg9:Dg:=⟨fun _ t=>t.f9,fun _ x t=>⟨t.f0,t.f1,t.f2,t.f3,t.f4,t.f5,t.f6,t.f7,t.f8,x,t.f10,t.f11,t.f12,t.f13,t.f14,t.f15⟩⟩
def dh3:Dg:=⟨fun _ t=>t.f10,fun _ x t=>⟨t.f0,t.f1,t.f2,t.f3,t.f4,t.f5,t.f6,t.f7,t.f8,t.f9,x,t.f11,t.f12,t.f13,t.f14,t.f15⟩⟩
def dh4:Dg:=⟨fun _ t=>t.f11,fun _ x t=>⟨t.f0,t.f1,t.f2,t.f3,t.f4,t.f5,t.f6,t.f7,t.f8,t.f9,t.f10,x,t.f12,t.f13,t.f14,t.f15⟩⟩
def dh5:Dg:=⟨fun _ t=>t.f12,fun _ x t=>⟨t.f0,t.f1,t.f2,t.f3,t.f4,t.f5,t.f6,t.f7,t.f8,t.f9,t.f10,t.f11,x,t.f13,t.f14,t.f15⟩⟩
def dh6:Dg:=⟨fun _ t=>t.f13,fun _ x t=>⟨t.f0,t.f1,t.f2,t.f3,t.f4,t.f5,t.f6,t.f7,t.f8,t.f9,t.f10,t.f11,t.f12,x,t.f14,t.f15⟩⟩
def dh7:Dg:=⟨fun _ t=>t.f14,fun _ x t=>⟨t.f0,t.f1,t.f2,t.f3,t.f4,t.f5,t.f6,t.f7,t.f8,t.f9,t.f10,t.f11,t.f12,t.f13,x,t.f15⟩⟩
def dh8:Dg:=⟨fun _ t=>t.f15,fun _ x t=>⟨t.f0,t.f1,t.f2,t.f3,t.f4,t.f5,t.f6,t.f7,t.f8,t.f9,t.f10,t.f11,t.f12,t.f13,t.f14,x⟩⟩
def cb4(n:Nat):Dg:=bif Nat.ble 8 n then(bif Nat.ble 12 n then(bif Nat.ble 14 n then(bif Nat.ble 15 n then dh8 else dh7)else(bif Nat.ble 13 n then dh6 else dh5))else(bif Nat.ble 10 n then(bif Nat.ble 11 n then dh4 else dh3)else(bif Nat.ble 9 n then dg9 else dg8)))else(bif Nat.ble 4 n then(bif Nat.ble 6 n then(bif Nat.ble 7 n then dg7 else dg6)else(bif Nat.ble 5 n then dg5 else dg4))else(bif Nat.ble 2 n then(bif Nat.ble 3 n then dg3 else dg2)else(bif Nat.ble 1 n then dg1 else dg0)))
def P16.const{α:Type}(x:α):P16 α:=⟨x,x,x,x,x,x,x,x,x,x,x,x,x,x,x,x⟩
inductive Val where
 |vi (n:Int)
 |vs (l:List UInt8)
 |vb (x:Bool)
 |vl (r:List Val)
 deriving Inhabited
def Val.toI:Val→Int
 | .vi n=>n
 |_=>0
def Val.toS:Val→List UInt8
 | .vs l=>l
 |_=>[]
def Val.toB:Val→Bool
 | .vb x=>x
 |_=>false
def Val.toL:Val→List Val
 | .vl r=>r
 |_=>[]
inductive CT where
 |int (k:IntKind)
 |str
 |bool
 deriving DecidableEq
inductive Prim where
 |ar (op:BinOp) (k:IntKind)
 |cmp (op:BinOp)
 |scmp (op:BinOp)
 |cat
 |not
 |and
 |or
 |beq
 |ite
 |un (op:UnOp) (k:IntKind)
 |conv (k:IntKind)
 |slen
 |sat
 |ssub
 |llen
 |lget
 |lset
 |lcat
 |lsub
 |row
 |imin
 |imax
 |iadd
 |isub
 |sbytes
 |bstr
 |bok
 |mfind (ks:List CT)
 |mdel (ks:List CT)
 |lrep
 |scnt
 |sidx
 deriving DecidableEq
inductive SX where
 |ci (n:Int)
 |cs (l:List UInt8)
 |cb (x:Bool)
 |va (n:Nat)
 |op (p:Prim) (l:List SX)
 |app (f:Nat) (l:List SX)
 deriving Inhabited
inductive AV where
 |bool (b:Bool)
 |int (k:IntKind) (n:Int)
 |str (s:List UInt8)
 |nilp
 |ptr (b o:Nat)
 |glob (g:Nat)
 |nils
 |sl (b o len cap:Nat)
 |us (b o len sz:Nat)
 |es (b o sz:Nat)
 |es0
 |nilm
 |map (r:Nat)
 |nilf
 |func (fn:Fn) (first cap:List AV)
 |yield (l:Nat)
 |nili
 |iface (t:Nat) (v:AV)
 |agg (cs:List AV)
 |tup (vs:List AV)
 |opq (n:Nat)
 |oint (k:IntKind) (e:SX)
 |ostr (e:SX)
 |obool (e:SX)
 |osl (b:Nat) (off len:SX) (sz:Nat)
 |optr (b:Nat) (idx:SX) (j sz:Nat)
 |ous (b:Nat) (len:SX) (sz:Nat)
 |atl (n:Nat)
 |any
 deriving Inhabited
def AV.undef:AV:= .tup []
def d24:List UInt8→List UInt8→Bool
 | [],[]=>true
 |a::x,b::y=>bif Nat.beq a.toNat b.toNat then d24 x y else false
 |_,_=>false
def d25:Int→Int→Bool
 | .ofNat a,.ofNat b=>Nat.beq a b
 | .negSucc a,.negSucc b=>Nat.beq a b
 |_,_=>false
mutual
def SX.beq:SX→SX→Bool
 | .ci a,.ci b=>d25 a b
 | .cs a,.cs b=>d24 a b
 | .cb a,.cb b=>a==b
 | .va a,.va b=>Nat.beq a b
 | .op p a,.op q b=>decide (p=q)&&SX.beqs a b
 | .app p a,.app q b=>Nat.beq p q&&SX.beqs a b
 |_,_=>false
def SX.beqs:List SX→List SX→Bool
 | [],[]=>true
 |a::x,b::y=>SX.beq a b&&SX.beqs x y
 |_,_=>false
end
abbrev TF:=P16 (P16 AV)
structure PF where
 g:TF→AV
 s:AV→TF→TF
def d64(x y:Dg):PF:=⟨fun t=>y.g _ (x.g _ t),fun v t=>x.s _ (y.s _ v (x.g _ t)) t⟩
def dc4:PF:=⟨fun _=> .undef,fun _ t=>t⟩
def cQ2(n:Nat):PF:=bif Nat.blt n 256 then d64 (cb4 (n/16)) (cb4 (n % 16))else dc4
def TF.get(t:TF)(n:Nat):AV:=(cQ2 n).g t
def TF.set(t:TF)(n:Nat)(v:AV):TF:=(cQ2 n).s v t
def dc5:P16 AV:=P16.const .undef
def TF.empty:TF:=P16.const dc5
inductive ADef where
 |coll (b:Nat)
 |fn (f:FuncId) (cap args:List AV)
structure Ent where
 key:AV
 val:AV
 born:Nat
def an1:Nat:=4294967295
inductive Blk where
 |cells (elem fz:Nat) (cs:List AV)
 |arr (elem:Nat) (sig:List CT) (l:SX)
 |map (es:List Ent) (clock:Nat)
 |marr (d:Bool) (ks vs:List CT) (l:SX)
 |bag (elem:Nat) (sig:List CT) (l:SX)
 |mrg (it:Nat) (d:Bool) (ks vs:List CT) (l:SX)
 |mit (m:Nat)
 |vec (cs:List AV)
 |strIter (s:List UInt8) (pos:Nat)
 |mapIter (m:Option Nat) (since:Nat) (seen:List Nat) (stepped:Nat)
 |loop (st:LoopState) (pending:Option Code) (fn:FuncId) (tm:TF) (nt:Nat) (params:Array Tmp) (assign body:Code) (defers:Nat)
 |defd (taken:Bool)
abbrev TH:=P16 (P16 (P16 (P16 (Option Blk))))
structure PH where
 g:TH→Option Blk
 s:Option Blk→TH→TH
def d65(x y z u:Dg):PH:=⟨fun t=>u.g _ (z.g _ (y.g _ (x.g _ t))),
 fun v t=>x.s _ (y.s _ (z.s _ (u.s _ v (z.g _ (y.g _ (x.g _ t)))) (y.g _ (x.g _ t))) (x.g _ t)) t⟩
def d26:PH:=⟨fun _=>none,fun _ t=>t⟩
def cc1(n:Nat):PH:=bif !(Nat.blt n 65536)then d26 else d65 (cb4 (n/4096)) (cb4 (n/256 % 16)) (cb4 (n/16 % 16)) (cb4 (n % 16))
structure Heap where
 t:TH
 next:Nat
 wm:Nat
def cQ3:P16 (Option Blk):=P16.const none
def cc2:P16 (P16 (Option Blk)):=P16.const cQ3
def cc3:P16 (P16 (P16 (Option Blk))):=P16.const cc2
def a35(b:Nat)(t:TH)(_ _:Nat):Option Blk:=(cc1 b).g t
def dh9(b:Nat)(x:Option Blk)(t:TH)(next wm:Nat):Heap:=⟨(cc1 b).s x t,next,wm⟩
def aF3(x:Blk)(t:TH)(next wm:Nat):Heap:=⟨(cc1 next).s (some x) t,next+1,wm⟩
def Heap.get(h:Heap)(b:Nat):Option Blk:=Heap.rec (a35 b) h
def Heap.put(h:Heap)(b:Nat)(x:Option Blk):Heap:=Heap.rec (dh9 b x) h
def Heap.new(h:Heap)(x:Blk):Heap:=Heap.rec (aF3 x) h
def Heap.empty:Heap:=⟨P16.const cc3,0,0⟩
def a90(P:Program)(t:TypeId):Option Nat:=(P.info? t).map (·.size)
def cQ4(P:Program)(t:TypeId):Option Bool:=(P.underlying t).map fun
 | .struct _| .array _ _=>true
 |_=>false
def aF4:Value→Option AV
 | .bool b=>some (.bool b)
 | .int k n=>some (.int k n)
 | .string s=>some (.str s.data.toList)
 | .pointer none=>some .nilp
 | .slice none 0 0=>some .nils
 | .map none=>some .nilm
 | .nilFunc=>some .nilf
 | .nilIface=>some .nili
 |_=>none
def bi4:Value→Option AV
 | .agg cs=>(cs.toList.mapM aF4).map .agg
 | .tuple vs=>match vs.toList with
   | []=>some .undef
   |_=>none
 |v=>aF4 v
def V5(P:Program)(t:TypeId):Option AV:=((P.info? t).bind (·.zero)).bind bi4
def AV.cells:AV→List AV
 | .agg cs=>cs
 |v=>[v]
def AV.nt:AV→Bool
 | .tup _=>false
 | .any=>false
 |_=>true
def AV.one:AV→Bool
 | .agg _| .tup _| .any=>false
 |_=>true
def AV.oneA:AV→Bool
 | .agg _| .tup _=>false
 |_=>true
def aF5:Int→Int→Bool
 | .ofNat a,.ofNat b=>Nat.blt a b
 | .negSucc _,.ofNat _=>true
 | .ofNat _,.negSucc _=>false
 | .negSucc a,.negSucc b=>Nat.blt b a
def b76:Int→Int→Bool
 | .ofNat a,.ofNat b=>Nat.beq a b
 | .negSucc a,.negSucc b=>Nat.beq a b
 |_,_=>false
def cc4:IntKind→Nat
 | .i8=>128| .i16=>32768| .i32=>2147483648| .i64=>9223372036854775808
 | .u8=>256| .u16=>65536| .u32=>4294967296| .u64=>18446744073709551616
def al3(k:IntKind)(n:Int):Int:=match n with
 | .ofNat m=>bif Nat.blt m (cc4 k)then .ofNat m else k.wrap (.ofNat m)
 | .negSucc m=>k.wrap (.negSucc m)
def a51:Int→Option Nat
 | .ofNat n=>some n
 | .negSucc _=>none
def aS0(op:BinOp)(k:IntKind)(x y:Int):Option AV:=
 match op with
 | .add=>some (.int k (al3 k (x+y)))
 | .sub=>some (.int k (al3 k (x-y)))
 | .mul=>some (.int k (al3 k (x*y)))
 | .quo=>bif b76 y 0 then none else some (.int k (al3 k (x.tdiv y)))
 | .rem=>bif b76 y 0 then none else some (.int k (x.tmod y))
 | .and=>some (.int k (al3 k ((BitVec.ofInt k.bits x&&&BitVec.ofInt k.bits y).toNat)))
 | .or=>some (.int k (al3 k ((BitVec.ofInt k.bits x|||BitVec.ofInt k.bits y).toNat)))
 | .xor=>some (.int k (al3 k ((BitVec.ofInt k.bits x^^^BitVec.ofInt k.bits y).toNat)))
 | .andNot=>some (.int k (al3 k ((BitVec.ofInt k.bits x&&& ~~~(BitVec.ofInt k.bits y)).toNat)))
 | .eql=>some (.bool (b76 x y))
 | .neq=>some (.bool (!b76 x y))
 | .lss=>some (.bool (aF5 x y))
 | .leq=>some (.bool (!aF5 y x))
 | .gtr=>some (.bool (aF5 y x))
 | .geq=>some (.bool (!aF5 x y))
 |_=>none
def aT6(op:BinOp)(k:IntKind)(x y:Int):Option AV:=
 match a51 y with
 |none=>none
 |some y=>
  let n:=min y k.bits
  match op with
  | .shl=>some (.int k (al3 k (x*2^n)))
  | .shr=>some (.int k (match x with| .ofNat m=> .ofNat (m/2^n)| .negSucc m=>(Int.negSucc m).fdiv (2^n)))
  |_=>none
def di0(a:UInt8)(ih:List UInt8→Bool)(y:List UInt8):Bool:=match y with
 | []=>false
 |b::y=>bif Nat.beq a.toNat b.toNat then ih y else false
def cw0(x:List UInt8):List UInt8→Bool:=List.rec (motive:=fun _=>List UInt8→Bool) List.isEmpty (fun a _=>di0 a) x
def ltN(y:List UInt8):Bool:=match y with
 | []=>false
 |_::_=>true
def ltS(a:UInt8)(ih:List UInt8→Bool)(y:List UInt8):Bool:=match y with
 | []=>false
 |b::y=>bif Nat.blt a.toNat b.toNat then true else bif Nat.beq a.toNat b.toNat then ih y else false
def ltB(x:List UInt8):List UInt8→Bool:=List.rec (motive:=fun _=>List UInt8→Bool) ltN (fun a _=>ltS a) x
def aT7:Nat:=4294967296
def bF9(op:BinOp)(x y:List UInt8):Option AV:=
 match op with
 | .add=>bif Nat.blt (x.length+y.length) aT7 then some (.str (x++y))else none
 | .eql=>some (.bool (cw0 x y))
 | .neq=>some (.bool (!cw0 x y))
 | .lss=>some (.bool (ltB x y))
 | .leq=>some (.bool (!ltB y x))
 | .gtr=>some (.bool (ltB y x))
 | .geq=>some (.bool (!ltB x y))
 |_=>none
def b77:AV→Option Bool
 | .nils=>some true
 | .sl _ _ _ _=>some false
 | .us _ _ _ _=>some false
 | .es _ _ _=>some false
 | .es0=>some false
 |_=>none
def bt7:AV→Option Bool
 | .nilm=>some true
 | .map _=>some false
 |_=>none
def bt8:AV→Option Bool
 | .nilf=>some true
 | .func _ _ _=>some false
 | .yield _=>some false
 |_=>none
def ae8(P:Program)(t:TypeId)(cs:List AV)(off:Nat):Option AV:=
 match cQ4 P t,a90 P t with
 |some true,some n=>bif Nat.ble (off+n) cs.length then some (.agg ((cs.drop off).take n))else none
 |some false,some _=>cs[off]?
 |_,_=>none
def a91(P:Program)(ih:TypeId→AV→AV→Option Bool)(xs ys:List AV):List Field→Option Bool
 | []=>some true
 |f::r=>bif f.name== "_" then a91 P ih xs ys r else match ae8 P f.type xs f.offset,ae8 P f.type ys f.offset with
  |some a,some b=>match ih f.type a b with
   |some true=>a91 P ih xs ys r
   |x=>x
  |_,_=>none
def aF6(P:Program)(ih:TypeId→AV→AV→Option Bool)(e n:Nat)(xs ys:List AV):Nat→Nat→Option Bool
 |0,_=>some true
 |k+1,i=>match ae8 P e xs (i*n),ae8 P e ys (i*n)with
  |some a,some b=>match ih e a b with
   |some true=>aF6 P ih e n xs ys k (i+1)
   |x=>x
  |_,_=>none
def cQ5(P:Program)(e a o b o':Nat):Option Bool:=match a90 P e with
 |some (_+1)=>bif Nat.beq a b then some (Nat.beq o o')else none
 |_=>none
def a44(P:Program)(ih:TypeId→AV→AV→Option Bool)(t:TypeId)(x y:AV):Option Bool:=
 match P.underlying t with
 |some .bool=>match x,y with
  | .bool a,.bool b=>some (a==b)
  |_,_=>none
 |some (.int _)=>match x,y with
  | .int k a,.int k' b=>if k=k' then some (b76 a b)else none
  | .oint k a,.oint k' b=>if k=k' then(bif SX.beq a b then some true else none)else none
  |_,_=>none
 |some .string=>match x,y with
  | .str a,.str b=>some (cw0 a b)
  | .ostr a,.ostr b=>bif SX.beq a b then some true else none
  |_,_=>none
 |some (.pointer e)=>match x,y with
  | .nilp,.nilp=>some true
  | .nilp,.ptr _ _=>some false
  | .ptr _ _,.nilp=>some false
  | .ptr a o,.ptr b o'=>cQ5 P e a o b o'
  |_,_=>none
 |some (.interface _)=>match x,y with
  | .nili,.nili=>some true
  | .nili,.iface _ _=>some false
  | .iface _ _,.nili=>some false
  | .iface tx vx,.iface ty vy=>bif Nat.beq tx ty then(match P.info? tx with
      |some i=>bif i.comparable then ih tx vx vy else none
      |none=>none)
    else some false
  |_,_=>none
 |some (.slice _)=>match x,y with
  | .nils,b=>b77 b
  |a,.nils=>b77 a
  |_,_=>none
 |some (.map _ _)=>match x,y with
  | .nilm,b=>bt7 b
  |a,.nilm=>bt7 a
  |_,_=>none
 |some (.func _ _ _)=>match x,y with
  | .nilf,b=>bt8 b
  |a,.nilf=>bt8 a
  |_,_=>none
 |some (.struct fields)=>match x,y with
  | .agg xs,.agg ys=>bif P.stoodInHeld t then none else a91 P ih xs ys fields.toList
  |_,_=>none
 |some (.array len elem)=>match x,y with
  | .agg xs,.agg ys=>match a90 P elem with
    |none=>none
    |some n=>aF6 P ih elem n xs ys len 0
  |_,_=>none
 |_=>none
def di1(_:TypeId)(_ _:AV):Option Bool:=none
def eqE(P:Program)(n:Nat):TypeId→AV→AV→Option Bool:=Nat.rec (motive:=fun _=>TypeId→AV→AV→Option Bool) di1 (fun _=>a44 P) n
def af2:Operand→Bool
 | .const _=>true
 |_=>false
def bN6(P:Program)(t:TypeId)(x y:Operand)(a b:AV):Bool:=
 match a with
 | .nili=>af2 x||af2 y||(match b with
   | .nili=>false
   | .opq _=>false
   | .any=>false
   |_=>true)
 | .any=>false
 | .agg _=> !(P.eqGuardType P.depth t)
 | .opq _=>false
 |_=>true
def an2(P:Program)(op:BinOp)(t:TypeId)(x y:Operand)(a b:AV):Bool:=
 match op with
 | .eql| .neq=>bN6 P t x y a b
 |_=>true
def dc6(op:BinOp)(k k':IntKind)(a b:Int):Option AV:=match op with
 | .shl=>aT6 .shl k a b
 | .shr=>aT6 .shr k a b
 |op=>if k=k' then aS0 op k a b else none
def cc5(P:Program)(op:BinOp)(t:TypeId)(x y:AV):Option AV:=match op with
 | .eql=>(eqE P 10000 t x y).map .bool
 | .neq=>(eqE P 10000 t x y).map fun b=> .bool (!b)
 |_=>none
def d66(op:BinOp)(k:IntKind)(a:Int)(n:Nat):Option AV:=match op,k with
 | .gtr,.i64=>bif aF5 (.ofNat n) a then none else some (.bool false)
 |_,_=>none
def d27(P:Program)(op:BinOp)(t:TypeId)(x y:AV):Option AV:=
 match x with
 | .int k a=>match y with
   | .int k' b=>dc6 op k k' a b
   | .atl n=>d66 op k a n
   |_=>none
 | .str a=>match y with
   | .str b=>bF9 op a b
   |_=>none
 |x=>cc5 P op t x y
def unE(op:UnOp)(x:AV):Option AV:=
 match op,x with
 | .neg,.int k n=>some (.int k (al3 k (0-n)))
 | .xor,.int k n=>aS0 .xor k (if k.signed then-1 else k.max) n
 | .not,.bool b=>some (.bool !b)
 |_,_=>none
def bN7(P:Program)(t:TypeId)(a:AV)(h:Heap):Option AV:=
 match a with
 | .ptr b o=>match h.get b with
   |some (.cells _ _ cs)=>ae8 P t cs o
   |_=>none
 |_=>none
def a03(cs:List AV)(o:Nat)(vs:List AV):List AV:=cs.take o++vs++cs.drop (o+vs.length)
def putCells(h:Heap)(b o:Nat)(vs:List AV):Option Heap:=
 match vs with
 | []=>some h
 |vs=>match h.get b with
  |some (.cells e fz cs)=>
   bif Nat.ble h.wm b&&Nat.ble fz o&&Nat.ble (o+vs.length) cs.length&&vs.all AV.one then some (h.put b (some (.cells e fz (a03 cs o vs))))else none
  |_=>none
def b78(P:Program)(t:TypeId)(a v:AV)(h:Heap):Option Heap:=
 match a,a90 P t with
 | .ptr b o,some n=>bif v.nt&&Nat.beq v.cells.length n then putCells h b o v.cells else none
 |_,_=>none
def av8(t:TypeId)(v:AV)(h:Heap):Option (AV×Heap):=
 bif v.cells.all AV.one then some (.ptr h.next 0,h.new (.cells t 0 v.cells))else none
def bi5(place:Nat→Option (Nat×Nat))(cells:List AV):List (Nat×AV)→Option (List AV)
 | []=>some cells
 |(i,v)::rest=>
  match place i with
  |none=>none
  |some (off,size)=>bif v.nt&&(Nat.beq v.cells.length size&&Nat.ble (off+v.cells.length) cells.length)then bi5 place (a03 cells off v.cells) rest else none
def bN8(P:Program)(t:TypeId)(parts:List (Nat×AV)):Option AV:=
 match V5 P t,P.underlying t with
 |some z,some (.struct fields)=>(bi5 (fun i=>(fields[i]?).bind fun f=>(a90 P f.type).map fun s=>(f.offset,s)) z.cells parts).bind fun cs=>
  bif fields.all (fun f=>(a90 P f.type).isSome)&&z.nt then some (.agg cs)else none
 |some z,some (.array _ elem)=>match a90 P elem with
  |some s=>bif z.nt then(bi5 (fun i=>some (i*s,s)) z.cells parts).map .agg else none
  |none=>none
 |_,_=>none
def rep:Nat→List AV→List AV
 |0,_=>[]
 |n+1,l=>l++rep n l
def X9(P:Program)(t:TypeId)(len:Nat)(parts:List (Nat×AV))(h:Heap):Option (AV×Heap):=
 match P.underlying t with
 |some (.slice elem)=>match a90 P elem,V5 P elem with
  |some s,some z=>bif Nat.beq z.cells.length s&&Nat.blt 0 s&&Nat.ble (len*s) 1000000 then
   match bi5 (fun i=>some (i*s,s)) (rep len z.cells) parts with
   |some cs=>bif cs.all AV.one then some (.sl h.next 0 len len,h.new (.cells elem 0 cs))else none
   |none=>none
   else none
  |_,_=>none
 |_=>none
def a05(P:Program)(t:TypeId)(l c:AV)(h:Heap):Option (AV×Heap):=
 match P.underlying t,l,c with
 |some (.slice elem),.int _ l,.int _ c=>match a51 l,a51 c,a90 P elem,V5 P elem,P.info? elem with
  |some l,some c,some s,some z,some i=>
   bif Nat.ble l c&&Nat.ble c 1000000&&Nat.ble i.bytes 1000&&Nat.beq z.cells.length s&&Nat.blt 0 s&&z.cells.all AV.one then some (.sl h.next 0 l c,h.new (.cells elem 0 (rep c z.cells)))else none
  |_,_,_,_,_=>none
 |_,_,_=>none
def ai7(P:Program)(s:TypeId)(a:AV)(f:Nat):Option AV:=
 match P.underlying s,a with
 |some (.struct fields),.ptr b o=>match fields[f]? with
  |some f=>match a90 P f.type with
   |some (_+1)=>some (.ptr b (o+f.offset))
   |_=>none
  |none=>none
 |_,_=>none
def bt9(P:Program)(t:TypeId)(x:AV)(f:Nat):Option AV:=
 match P.underlying t,x with
 |some (.struct fields),.agg cs=>(fields[f]?).bind fun f=>ae8 P f.type cs f.offset
 |_,_=>none
def av9(P:Program)(t:TypeId)(x i:AV):Option AV:=
 match i with
 | .int _ i=>match a51 i,P.underlying t,x with
   |some i,some (.array len elem),.ptr b o=>match a90 P elem with
    |some s=>bif Nat.blt i len then some (.ptr b (o+i*s))else none
    |none=>none
   |some i,some (.slice elem),.sl b o len _=>match a90 P elem with
    |some s=>bif Nat.blt i len then some (.ptr b (o+i*s))else none
    |none=>none
   |some i,some (.slice elem),.us b o len _=>match a90 P elem with
    |some s=>bif Nat.blt i len then some (.ptr b (o+i*s))else none
    |none=>none
   |_,_,_=>none
 |_=>none
def bu0(P:Program)(t:TypeId)(x i:AV):Option AV:=
 match i with
 | .int _ i=>match a51 i,P.underlying t,x with
   |some i,some (.array len elem),.agg cs=>match a90 P elem with
    |some s=>bif Nat.blt i len then ae8 P elem cs (i*s)else none
    |none=>none
   |some i,some .string,.str s=>(s[i]?).map fun b=> .int .u8 b.toNat
   |_,_,_=>none
 |_=>none
def W3(x:Option AV)(d:Nat):Option Nat:=
 match x with
 |none=>some d
 |some (.int _ i)=>a51 i
 |some _=>none
def bN9(P:Program)(t:TypeId)(x:AV)(lo hi mx:Option AV)(h:Heap):Option AV:=
 match P.underlying t,x with
 |some .string,.str s=>match W3 lo 0,W3 hi s.length,mx with
  |some l,some e,none=>bif Nat.ble l e&&Nat.ble e s.length then some (.str ((s.drop l).take (e-l)))else none
  |_,_,_=>none
 |some (.slice elem),.nils=>match W3 lo 0,W3 hi 0,W3 mx 0,a90 P elem with
  |some 0,some 0,some 0,some _=>some .nils
  |_,_,_,_=>none
 |some (.slice elem),.es b o sz=>match W3 lo 0,W3 hi 0,mx,a90 P elem with
  |some 0,some 0,none,some _=>some (.es b o sz)
  |some 0,some 0,some m,some _=>match W3 (some m) 0 with
   |some 0=>some .es0
   |_=>none
  |_,_,_,_=>none
 |some (.slice elem),.es0=>match W3 lo 0,W3 hi 0,W3 mx 0,a90 P elem with
  |some 0,some 0,some 0,some _=>some .es0
  |_,_,_,_=>none
 |some (.slice elem),.sl b o len cap=>match W3 lo 0,W3 hi len,W3 mx cap,a90 P elem with
  |some l,some e,some m,some s=>bif Nat.ble l e&&Nat.ble e m&&Nat.ble m cap then some (.sl b (bif Nat.beq m l then o else o+l*s) (e-l) (m-l))else none
  |_,_,_,_=>none
 |some (.slice elem),.us b o len sz=>match W3 lo 0,W3 hi len,a90 P elem,h.get b with
  |some l,some e,some s,some (.cells _ _ cs)=>bif Nat.beq s sz&&Nat.ble l e&&Nat.blt 0 s&&Nat.ble (o+e*s) cs.length then
   (match mx with
   |none=>bif Nat.blt (o+l*s) cs.length||Nat.beq l 0 then some (.us b (o+l*s) (e-l) sz)else some (.es b (o+l*s) sz)
   |some m=>match W3 (some m) 0 with
    |some m=>bif Nat.ble e m&&Nat.ble (o+m*s) cs.length then some (.sl b (bif Nat.beq m l then o else o+l*s) (e-l) (m-l))else none
    |none=>none)
   else none
  |_,_,_,_=>none
 |some (.array n elem),.ptr b o=>match W3 lo 0,W3 hi n,W3 mx n,a90 P elem with
  |some l,some e,some m,some s=>bif Nat.ble l e&&Nat.ble e m&&Nat.ble m n then some (.sl b (bif Nat.beq m l then o else o+l*s) (e-l) (m-l))else none
  |_,_,_,_=>none
 |_,_=>none
def a92(s n:Nat)(x:AV)(h:Heap):Option (List AV):=
 match x with
 | .nils=>bif Nat.beq n 0 then some []else none
 | .es _ _ _| .es0=>bif Nat.beq n 0 then some []else none
 | .str l=>some ((l.take n).map fun b=> .int .u8 b.toNat)
 | .sl b o _ _| .us b o _ _=>match h.get b with
   |some (.cells _ _ cs)=>bif Nat.ble (o+n*s) cs.length&&((cs.drop o).take (n*s)).all AV.one then some ((cs.drop o).take (n*s))else none
   |_=>none
 |_=>none
def ay9:AV→Option Nat
 | .nils| .es _ _ _| .es0=>some 0
 | .str l=>some l.length
 | .sl _ _ n _| .us _ _ n _=>some n
 |_=>none
def room:Nat:=1000000
def d28(s:Nat)(y:AV)(h:Heap):Option (Nat×List AV):=
 match ay9 y with
 |some n=>(a92 s n y h).bind fun l=>bif Nat.beq l.length (n*s)then some (n,l)else none
 |none=>none
def dc7(z:List AV)(y:AV):Option (Nat×List AV):=
 match y with
 | .int _ m=>match a51 m with
   |some n=>bif Nat.ble n room&&z.all AV.one&&Nat.blt 0 z.length then some (n,rep n z)else none
   |none=>none
 |_=>none
def d67(P:Program)(yt:TypeId)(s:Nat)(z:List AV)(y:AV)(h:Heap):Option (Nat×List AV):=
 match P.underlying yt with
 |some (.slice _)=>d28 s y h
 |some .string=>d28 s y h
 |some (.int _)=>dc7 z y
 |_=>none
def aY3(elem s:Nat)(x:AV)(n:Nat)(new:List AV)(h:Heap):Option (AV×Heap):=
 match x with
 | .nils=>some (.us h.next 0 n s,h.new (.cells elem 0 new))
 | .es0=>some (.us h.next 0 n s,h.new (.cells elem 0 new))
 | .sl b o len cap=>
   bif Nat.ble (len+n) cap then(putCells h b (o+len*s) new).map fun h'=>(.sl b o (len+n) cap,h')
   else(a92 s len x h).bind fun old=>bif Nat.beq old.length (len*s)then some (.us h.next 0 (len+n) s,h.new (.cells elem 0 (old++new)))else none
 | .us b o len sz=>bif !(Nat.beq s sz)then none else match h.get b with
   |some (.cells e fz cs)=>
    bif Nat.ble (o+(len+n)*s) cs.length then(putCells h b (o+len*s) new).map fun h'=>(.us b o (len+n) s,h')
    else bif Nat.ble h.wm b&&Nat.ble fz (o+len*s)&&Nat.ble (o+len*s) cs.length&&Nat.beq e elem then
     some (.us h.next 0 (len+n) s,(h.put b none).new (.cells e (fz-o) ((cs.drop o).take (len*s)++new)))
    else none
   |_=>none
 | .es b o sz=>bif !(Nat.beq s sz)then none else match h.get b with
   |some (.cells e fz cs)=>
    bif Nat.ble h.wm b&&Nat.ble fz o&&Nat.beq e elem then some (.us h.next 0 n s,(h.put b none).new (.cells e 0 new))else none
   |_=>none
 |_=>none
def bi6(s:Nat)(x:AV)(h:Heap):Bool:=
 match x with
 | .nils=>true
 | .es _ _ _=>true
 | .es0=>true
 | .sl _ _ l c=>Nat.ble l c
 | .us b o l sz=>Nat.beq s sz&&(match h.get b with
   |some (.cells _ _ cs)=>Nat.ble (o+l*s) cs.length
   |_=>false)
 |_=>false
def aq0(P:Program)(t:TypeId):Bool:=match P.underlying t with
 |some (.struct fs)=>match fs[0]? with
  |some f=>match P.underlying f.type with
   |some (.pointer u)=>Nat.beq u t
   |_=>false
  |none=>false
 |_=>false
def bi7(P:Program)(argTypes:Array TypeId)(x y:AV)(h:Heap):Option (AV×Heap):=
 match(argTypes[0]?).bind P.underlying,argTypes[1]? with
 |some (.slice elem),some yt=>match ay9 x,P.info? elem,V5 P elem with
  |some lx,some i,some z=>
   match d67 P yt i.size z.cells y h with
   |none=>none
   |some (n,new)=>
    bif Nat.blt 0 i.size&&Nat.beq z.cells.length i.size&&Nat.ble (lx+n) room&&Nat.ble i.bytes 1000&&Nat.beq argTypes.size 2&& !(aq0 P elem)then
     (bif Nat.beq n 0 then(bif bi6 i.size x h then some (x,h)else none)else aY3 elem i.size x n new h)
    else none
  |_,_,_=>none
 |_,_=>none
def cp1(x:AV)(n:Nat)(new:List AV)(h:Heap):Option (AV×Heap):=
 match x with
 | .nils=>some (.int .i64 n,h)
 | .es _ _ _=>some (.int .i64 n,h)
 | .es0=>some (.int .i64 n,h)
 | .sl b o _ _=>(putCells h b o new).map fun h'=>(.int .i64 n,h')
 | .us b o _ _=>(putCells h b o new).map fun h'=>(.int .i64 n,h')
 |_=>none
def cw1(P:Program)(argTypes:Array TypeId)(x y:AV)(h:Heap):Option (AV×Heap):=
 match(argTypes[0]?).bind P.underlying with
 |some (.slice elem)=>match a90 P elem,ay9 x,ay9 y with
  |some s,some lx,some ly=>(a92 s (Nat.min ly lx) y h).bind fun new=>cp1 x (Nat.min ly lx) new h
  |_,_,_=>none
 |_=>none
def b79:AV→AV→Bool
 | .bool a,.bool b=>a==b
 | .int k a,.int k' b=>(k==k')&&b76 a b
 | .str a,.str b=>cw0 a b
 |_,_=>false
def aY4:List AV→List AV→Bool
 | [],[]=>true
 |a::x,b::y=>b79 a b&&aY4 x y
 |_,_=>false
def bO0:AV→AV→Bool
 | .agg xs,.agg ys=>aY4 xs ys
 |x,y=>b79 x y
end
end Go.Ev
