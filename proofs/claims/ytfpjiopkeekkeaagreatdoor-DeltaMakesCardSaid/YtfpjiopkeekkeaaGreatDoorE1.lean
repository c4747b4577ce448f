import GoSem.Step
set_option autoImplicit false
set_option linter.unusedVariables false
namespace Go.Ev
open Go
abbrev a8:=@Option.some.injEq
abbrev b9:=@Nat.le_refl
abbrev e8:=@Bool.and_eq_true
abbrev e9:=@Prod.mk.injEq
abbrev i3:=@List.getD_eq_getElem?_getD
abbrev i4:=@Nat.lt_or_ge
abbrev j0:=@List.length_take
abbrev j5:=@List.length_append
abbrev j6:=@List.all_eq_true
abbrev j7:=@List.getElem?_eq_getElem
abbrev j8:=@Nat.zero_add
abbrev j9:=@Bool.false_eq_true
abbrev k5:=@List.getElem?_append_right
abbrev k6:=@List.getElem?_append_left
abbrev k8:=@Option.bind_eq_some_iff
abbrev l5:=@Option.map_eq_some_iff
abbrev l6:=@List.getElem?_eq_none
abbrev m5:=@List.map_cons
abbrev m6:=@List.getD_cons_zero
abbrev m7:=@List.getElem?_eq_some_iff
abbrev m8:=@Bool.not_eq_true
abbrev m9:=@Bool.or_eq_true
abbrev n7:=@Array.getD_eq_getD_getElem?
abbrev n8:=@Bool.false_and
abbrev n9:=@Bool.not_eq_true'
abbrev o7:=@List.getD_cons_succ
abbrev o8:=@List.mem_map
abbrev o9:=@List.length_drop
abbrev p7:=@Nat.add_mul
abbrev p9:=@Nat.add_assoc
abbrev q9:=@Nat.zero_le
abbrev r5:=@List.length_map
abbrev r6:=@List.mem_cons
abbrev r7:=@List.mem_range
abbrev r8:=@Nat.le_trans
abbrev r9:=@Bool.eq_iff_iff
abbrev s6:=@List.getElem?_take
abbrev s7:=@List.take_append_drop
abbrev s8:=@Bool.and_true
abbrev s9:=@List.mem_filter
abbrev t7:=@Nat.lt_of_lt_of_le
abbrev t8:=@List.getElem?_drop
abbrev u4:=@Array.getElem?_eq_getElem
abbrev u5:=@List.append_assoc
abbrev u9:=@Nat.mul_comm
abbrev v7:=@List.getElem?_map
abbrev v8:=@List.append_nil
abbrev w6:=@List.length_set
abbrev x5:=@List.map_append
abbrev x6:=@List.length_eq_zero_iff
abbrev x7:=@List.mem_singleton
abbrev x8:=@Nat.min_eq_left
abbrev x9:=@Array.getElem?_eq_none
abbrev y5:=@List.any_eq_true
abbrev y6:=@List.mem_flatMap
abbrev y7:=@Nat.le_add_right
abbrev y8:=@Bool.not_true
abbrev y9:=@Nat.mul_le_mul_right
abbrev z8:=@List.filter_cons
abbrev A0:=@List.mem_append
abbrev A1:=@List.eq_nil_of_length_eq_zero
abbrev A2:=@List.size_toArray
abbrev A3:=@Array.toList_inj
abbrev A4:=@List.flatMap_cons
abbrev A5:=@List.pairwise_cons
abbrev A6:=@Nat.add_comm
abbrev A7:=@List.cons.injEq
abbrev A8:=@List.any_eq_false
abbrev A9:=@Nat.add_sub_cancel_left
abbrev B0:=@Nat.sub_self
abbrev B1:=@Array.ext'
abbrev B2:=@Nat.mul_div_le
abbrev B3:=@Nat.mul_assoc
abbrev B4:=@Bool.eq_false_or_eq_true
abbrev B5:=@Nat.le_of_mul_le_mul_right
abbrev B6:=@List.map_map
abbrev B7:=@List.drop_left
abbrev B8:=@List.filter_append
abbrev B9:=@Array.getElem?_setIfInBounds
abbrev C0:=@Nat.one_mul
abbrev C1:=@List.map_congr_left
abbrev C2:=@Array.toList_modify
abbrev C3:=@List.drop_zero
abbrev C4:=@Nat.le_of_not_lt
abbrev C5:=@Bool.false_or
abbrev C6:=@List.mem_cons_self
abbrev C7:=@List.find?_range_eq_none
abbrev C8:=@Nat.min_eq_right
abbrev C9:=@List.range'_succ
abbrev D0:=@Nat.zero_mul
abbrev D1:=@Array.toList_push
abbrev D2:=@List.mem_of_getElem?
abbrev D3:=@List.take_of_length_le
abbrev D4:=@List.take_left
abbrev D5:=@List.mem_cons_of_mem
abbrev D6:=@List.mapM_cons
abbrev D7:=@List.forIn_cons
abbrev D8:=@List.all_append
abbrev D9:=@List.drop_eq_nil_of_le
abbrev E1:=@Nat.beq_eq
abbrev E2:=@Bool.and_eq_false_iff
abbrev E3:=@Nat.lt_irrefl
abbrev E4:=@Nat.mul_le_mul_left
abbrev E5:=@List.filter_sublist
abbrev E6:=@Int.fdiv_eq_ediv_of_nonneg
abbrev E7:=@Nat.lt_trichotomy
abbrev E8:=@Bool.not_false
abbrev E9:=@Array.getElem?_modify
abbrev F0:=@Array.getElem?_append_left
abbrev F5:=@Nat.mul_le_mul
abbrev F6:=@List.getElem?_toArray
abbrev F7:=@Bool.true_and
abbrev F8:=@List.take_length
abbrev F9:=@List.range_eq_range'
abbrev G0:=@List.map_nil
abbrev G1:=@List.ext_getElem?
abbrev G2:=@Option.some.inj
abbrev G3:=@List.drop_of_length_le
abbrev G4:=@Bool.and_self
abbrev G5:=@Bool.or_false
abbrev G6:=@List.mem_or_eq_of_mem_set
abbrev G7:=@List.nodup_append
abbrev G8:=@List.getElem_of_mem
abbrev G9:=@Nat.max_eq_right
abbrev I0:=@List.pairwise_iff_getElem
abbrev I1:=@Nat.lt_mul_div_succ
abbrev I2:=@Nat.le_succ_of_le
abbrev I3:=@Nat.ne_of_lt
abbrev I4:=@List.drop_append
abbrev I5:=@List.take_take
abbrev I6:=@List.drop_take
abbrev I7:=@List.drop_drop
abbrev I8:=@List.ext_getElem
abbrev I9:=@List.length_range
abbrev J0:=@List.cons.inj
abbrev J1:=@Array.size_append
abbrev J2:=@List.range_succ_eq_map
abbrev J3:=@List.flatMap_append
abbrev J4:=@List.getElem?_set
abbrev J5:=@List.map_set
abbrev J6:=@List.not_mem_nil
abbrev J7:=@List.drop_eq_getElem_cons
abbrev J8:=@List.take_left'
abbrev J9:=@List.drop_left'
abbrev K0:=@List.length_filter_le
abbrev K1:=@Nat.max_eq_left
abbrev K2:=@List.set_append
abbrev K3:=@Int.le_refl
abbrev K4:=@Bool.not_eq_false'
abbrev K5:=@Bool.true_eq_false
abbrev K6:=@List.find?_eq_none
abbrev K7:=@List.filter_eq_self
abbrev K8:=@Nat.lt_succ_of_lt
abbrev K9:=@Int.natCast_nonneg
abbrev M0:=@Nat.add_sub_cancel
abbrev M3:=@Array.foldl_toList
abbrev M4:=@Option.isSome_iff_exists
abbrev M5:=@Array.all_eq_true'
abbrev M6:=@List.mem_of_mem_drop
abbrev M7:=@Array.toList_map
abbrev M8:=@Array.toList_eraseIdx
abbrev M9:=@Array.size_replicate
abbrev N0:=@List.range_succ
abbrev N1:=@List.mem_map_of_mem
abbrev N2:=@List.findIdx_eq_length
abbrev N3:=@List.take_append_of_le_length
abbrev N4:=@List.mem_append_left
abbrev N5:=@Bool.or_eq_false_iff
abbrev N6:=@List.perm_ext_iff_of_nodup
abbrev N7:=@List.nodup_range
abbrev N8:=@Array.getElem?_eq_some_iff
abbrev N9:=@List.nodup_cons
abbrev O0:=@List.take_add_one
abbrev O1:=@List.drop_append_of_le_length
abbrev O2:=@List.eq_nil_iff_forall_not_mem
abbrev O3:=@Array.getElem?_append_right
noncomputable section
structure P16 (α:Type)where
 f0:α
 f1:α
 f2:α
 f3:α
 f4:α
 f5:α
 f6:α
 f7:α
 f8:α
 f9:α
 f10:α
 f11:α
 f12:α
 f13:α
 f14:α
 f15:α
structure Dg where
 g:(α:Type)→P16 α→α
 s:(α:Type)→α→P16 α→P16 α
def dg0:Dg:=⟨fun _ t=>t.f0,fun _ x t=>⟨x,t.f1,t.f2,t.f3,t.f4,t.f5,t.f6,t.f7,t.f8,t.f9,t.f10,t.f11,t.f12,t.f13,t.f14,t.f15⟩⟩
def dg1:Dg:=⟨fun _ t=>t.f1,fun _ x t=>⟨t.f0,x,t.f2,t.f3,t.f4,t.f5,t.f6,t.f7,t.f8,t.f9,t.f10,t.f11,t.f12,t.f13,t.f14,t.f15⟩⟩
def dg2:Dg:=⟨fun _ t=>t.f2,fun _ x t=>⟨t.f0,t.f1,x,t.f3,t.f4,t.f5,t.f6,t.f7,t.f8,t.f9,t.f10,t.f11,t.f12,t.f13,t.f14,t.f15⟩⟩
def dg3:Dg:=⟨fun _ t=>t.f3,fun _ x t=>⟨t.f0,t.f1,t.f2,x,t.f4,t.f5,t.f6,t.f7,t.f8,t.f9,t.f10,t.f11,t.f12,t.f13,t.f14,t.f15⟩⟩
def dg4:Dg:=⟨fun _ t=>t.f4,fun _ x t=>⟨t.f0,t.f1,t.f2,t.f3,x,t.f5,t.f6,t.f7,t.f8,t.f9,t.f10,t.f11,t.f12,t.f13,t.f14,t.f15⟩⟩
def dg5:Dg:=⟨fun _ t=>t.f5,fun _ x t=>⟨t.f0,t.f1,t.f2,t.f3,t.f4,x,t.f6,t.f7,t.f8,t.f9,t.f10,t.f11,t.f12,t.f13,t.f14,t.f15⟩⟩
def dg6:Dg:=⟨fun _ t=>t.f6,fun _ x t=>⟨t.f0,t.f1,t.f2,t.f3,t.f4,t.f5,x,t.f7,t.f8,t.f9,t.f10,t.f11,t.f12,t.f13,t.f14,t.f15⟩⟩
def dg7:Dg:=⟨fun _ t=>t.f7,fun _ x t=>⟨t.f0,t.f1,t.f2,t.f3,t.f4,t.f5,t.f6,x,t.f8,t.f9,t.f10,t.f11,t.f12,t.f13,t.f14,t.f15⟩⟩
def dg8:Dg:=⟨fun _ t=>t.f8,fun _ x t=>⟨t.f0,t.f1,t.f2,t.f3,t.f4,t.f5,t.f6,t.f7,x,t.f9,t.f10,t.f11,t.f12,t.f13,t.f14,t.f15⟩⟩
def dg9:Dg:=⟨fun _ t=>t.f9,fun _ x t=>⟨t.f0,t.f1,t.f2,t.f3,t.f4,t.f5,t.f6,t.f7,t.f8,x,t.f10,t.f11,t.f12,t.f13,t.f14,t.f15⟩⟩
def dk4:Dg:=⟨fun _ t=>t.f10,fun _ x t=>⟨t.f0,t.f1,t.f2,t.f3,t.f4,t.f5,t.f6,t.f7,t.f8,t.f9,x,t.f11,t.f12,t.f13,t.f14,t.f15⟩⟩
def dk5:Dg:=⟨fun _ t=>t.f11,fun _ x t=>⟨t.f0,t.f1,t.f2,t.f3,t.f4,t.f5,t.f6,t.f7,t.f8,t.f9,t.f10,x,t.f12,t.f13,t.f14,t.f15⟩⟩
def dk6:Dg:=⟨fun _ t=>t.f12,fun _ x t=>⟨t.f0,t.f1,t.f2,t.f3,t.f4,t.f5,t.f6,t.f7,t.f8,t.f9,t.f10,t.f11,x,t.f13,t.f14,t.f15⟩⟩
def dk7:Dg:=⟨fun _ t=>t.f13,fun _ x t=>⟨t.f0,t.f1,t.f2,t.f3,t.f4,t.f5,t.f6,t.f7,t.f8,t.f9,t.f10,t.f11,t.f12,x,t.f14,t.f15⟩⟩
def dk8:Dg:=⟨fun _ t=>t.f14,fun _ x t=>⟨t.f0,t.f1,t.f2,t.f3,t.f4,t.f5,t.f6,t.f7,t.f8,t.f9,t.f10,t.f11,t.f12,t.f13,x,t.f15⟩⟩
def dk9:Dg:=⟨fun _ t=>t.f15,fun _ x t=>⟨t.f0,t.f1,t.f2,t.f3,t.f4,t.f5,t.f6,t.f7,t.f8,t.f9,t.f10,t.f11,t.f12,t.f13,t.f14,x⟩⟩
def cf8(n:Nat):Dg:=bif Nat.ble 8 n then(bif Nat.ble 12 n then(bif Nat.ble 14 n then(bif Nat.ble 15 n then dk9 else dk8)else(bif Nat.ble 13 n then dk7 else dk6))else(bif Nat.ble 10 n then(bif Nat.ble 11 n then dk5 else dk4)else(bif Nat.ble 9 n then dg9 else dg8)))else(bif Nat.ble 4 n then(bif Nat.ble 6 n then(bif Nat.ble 7 n then dg7 else dg6)else(bif Nat.ble 5 n then dg5 else dg4))else(bif Nat.ble 2 n then(bif Nat.ble 3 n then dg3 else dg2)else(bif Nat.ble 1 n then dg1 else dg0)))
def P16.const{α:Type}(x:α):P16 α:=⟨x,x,x,x,x,x,x,x,x,x,x,x,x,x,x,x⟩
inductive Val where
 |vi (n:Int)
 |vs (l:List UInt8)
 |vb (x:Bool)
 |vl (r:List Val)
 deriving Inhabited
def Val.toI:Val→Int
 | .vi n=>n
 |_=>0
def Val.toS:Val→List UInt8
 | .vs l=>l
 |_=>[]
def Val.toB:Val→Bool
 | .vb x=>x
 |_=>false
def Val.toL:Val→List Val
 | .vl r=>r
 |_=>[]
inductive CT where
 |int (k:IntKind)
 |str
 |bool
 deriving DecidableEq
inductive Prim where
 |ar (op:BinOp) (k:IntKind)
 |cmp (op:BinOp)
 |scmp (op:BinOp)
 |cat
 |not
 |and
 |or
 |beq
 |ite
 |un (op:UnOp) (k:IntKind)
 |conv (k:IntKind)
 |slen
 |sat
 |ssub
 |llen
 |lget
 |lset
 |lcat
 |lsub
 |row
 |imin
 |imax
 |iadd
 |isub
 |sbytes
 |bstr
 |bok
 |mfind (ks:List CT)
 |mdel (ks:List CT)
 |lrep
 |scnt
 |sidx
 deriving DecidableEq
inductive SX where
 |ci (n:Int)
 |cs (l:List UInt8)
 |cb (x:Bool)
 |va (n:Nat)
 |op (p:Prim) (l:List SX)
 |app (f:Nat) (l:List SX)
 deriving Inhabited
inductive AV where
 |bool (b:Bool)
 |int (k:IntKind) (n:Int)
 |str (s:List UInt8)
 |nilp
 |ptr (b o:Nat)
 |glob (g:Nat)
 |nils
 |sl (b o len cap:Nat)
 |us (b o len sz:Nat)
 |es (b o sz:Nat)
 |es0
 |nilm
 |map (r:Nat)
 |nilf
 |func (fn:Fn) (first cap:List AV)
 |yield (l:Nat)
 |nili
 |iface (t:Nat) (v:AV)
 |agg (cs:List AV)
 |tup (vs:List AV)
 |opq (n:Nat)
 |oint (k:IntKind) (e:SX)
 |ostr (e:SX)
 |obool (e:SX)
 |osl (b:Nat) (off len:SX) (sz:Nat)
 |optr (b:Nat) (idx:SX) (j sz:Nat)
 |ous (b:Nat) (len:SX) (sz:Nat)
 |atl (n:Nat)
 |any
 deriving Inhabited
def AV.undef:AV:= .tup []
def d63:List UInt8→List UInt8→Bool
 | [],[]=>true
 |a::x,b::y=>bif Nat.beq a.toNat b.toNat then d63 x y else false
 |_,_=>false
def d64:Int→Int→Bool
 | .ofNat a,.ofNat b=>Nat.beq a b
 | .negSucc a,.negSucc b=>Nat.beq a b
 |_,_=>false
mutual
def SX.beq:SX→SX→Bool
 | .ci a,.ci b=>d64 a b
 | .cs a,.cs b=>d63 a b
 | .cb a,.cb b=>a==b
 | .va a,.va b=>Nat.beq a b
 | .op p a,.op q b=>decide (p=q)&&SX.beqs a b
 | .app p a,.app q b=>Nat.beq p q&&SX.beqs a b
 |_,_=>false
def SX.beqs:List SX→List SX→Bool
 | [],[]=>true
 |a::x,b::y=>SX.beq a b&&SX.beqs x y
 |_,_=>false
end
abbrev TF:=P16 (P16 AV)
structure PF where
 g:TF→AV
 s:AV→TF→TF
def da2(x y:Dg):PF:=⟨fun t=>y.g _ (x.g _ t),fun v t=>x.s _ (y.s _ v (x.g _ t)) t⟩
def dh4:PF:=⟨fun _=> .undef,fun _ t=>t⟩
def cS3(n:Nat):PF:=bif Nat.blt n 256 then da2 (cf8 (n/16)) (cf8 (n % 16))else dh4
def TF.get(t:TF)(n:Nat):AV:=(cS3 n).g t
def TF.set(t:TF)(n:Nat)(v:AV):TF:=(cS3 n).s v t
def dh5:P16 AV:=P16.const .undef
def TF.empty:TF:=P16.const dh5
inductive ADef where
 |coll (b:Nat)
 |fn (f:FuncId) (cap args:List AV)
structure Ent where
 key:AV
 val:AV
 born:Nat
def au8:Nat:=4294967295
inductive Blk where
 |cells (elem fz:Nat) (cs:List AV)
 |arr (elem:Nat) (sig:List CT) (l:SX)
 |map (es:List Ent) (clock:Nat)
 |marr (d:Bool) (ks vs:List CT) (l:SX)
 |bag (elem:Nat) (sig:List CT) (l:SX)
 |mrg (it:Nat) (d:Bool) (ks vs:List CT) (l:SX)
 |mit (m:Nat)
 |vec (cs:List AV)
 |strIter (s:List UInt8) (pos:Nat)
 |mapIter (m:Option Nat) (since:Nat) (seen:List Nat) (stepped:Nat)
 |loop (st:LoopState) (pending:Option Code) (fn:FuncId) (tm:TF) (nt:Nat) (params:Array Tmp) (assign body:Code) (defers:Nat)
 |defd (taken:Bool)
abbrev TH:=P16 (P16 (P16 (P16 (Option Blk))))
structure PH where
 g:TH→Option Blk
 s:Option Blk→TH→TH
def da3(x y z u:Dg):PH:=⟨fun t=>u.g _ (z.g _ (y.g _ (x.g _ t))),
 fun v t=>x.s _ (y.s _ (z.s _ (u.s _ v (z.g _ (y.g _ (x.g _ t)))) (y.g _ (x.g _ t))) (x.g _ t)) t⟩
def d65:PH:=⟨fun _=>none,fun _ t=>t⟩
def cg8(n:Nat):PH:=bif !(Nat.blt n 65536)then d65 else da3 (cf8 (n/4096)) (cf8 (n/256 % 16)) (cf8 (n/16 % 16)) (cf8 (n % 16))
structure Heap where
 t:TH
 next:Nat
 wm:Nat
def cS4:P16 (Option Blk):=P16.const none
def cg9:P16 (P16 (Option Blk)):=P16.const cS4
def ch0:P16 (P16 (P16 (Option Blk))):=P16.const cg9
def a54(b:Nat)(t:TH)(_ _:Nat):Option Blk:=(cg8 b).g t
def dl0(b:Nat)(x:Option Blk)(t:TH)(next wm:Nat):Heap:=⟨(cg8 b).s x t,next,wm⟩
def aE4(x:Blk)(t:TH)(next wm:Nat):Heap:=⟨(cg8 next).s (some x) t,next+1,wm⟩
def Heap.get(h:Heap)(b:Nat):Option Blk:=Heap.rec (a54 b) h
def Heap.put(h:Heap)(b:Nat)(x:Option Blk):Heap:=Heap.rec (dl0 b x) h
def Heap.new(h:Heap)(x:Blk):Heap:=Heap.rec (aE4 x) h
def Heap.empty:Heap:=⟨P16.const ch0,0,0⟩
def ae2(P:Program)(t:TypeId):Option Nat:=(P.info? t).map (·.size)
def cS5(P:Program)(t:TypeId):Option Bool:=(P.underlying t).map fun
 | .struct _| .array _ _=>true
 |_=>false
def aK2:Value→Option AV
 | .bool b=>some (.bool b)
 | .int k n=>some (.int k n)
 | .string s=>some (.str s.data.toList)
 | .pointer none=>some .nilp
 | .slice none 0 0=>some .nils
 | .map none=>some .nilm
 | .nilFunc=>some .nilf
 | .nilIface=>some .nili
 |_=>none
def bm6:Value→Option AV
 | .agg cs=>(cs.toList.mapM aK2).map .agg
 | .tuple vs=>match vs.toList with
   | []=>some .undef
   |_=>none
 |v=>aK2 v
def X0(P:Program)(t:TypeId):Option AV:=((P.info? t).bind (·.zero)).bind bm6
def AV.cells:AV→List AV
 | .agg cs=>cs
 |v=>[v]
def AV.nt:AV→Bool
 | .tup _=>false
 | .any=>false
 |_=>true
def AV.one:AV→Bool
 | .agg _| .tup _| .any=>false
 |_=>true
def AV.oneA:AV→Bool
 | .agg _| .tup _=>false
 |_=>true
def aK3:Int→Int→Bool
 | .ofNat a,.ofNat b=>Nat.blt a b
 | .negSucc _,.ofNat _=>true
 | .ofNat _,.negSucc _=>false
 | .negSucc a,.negSucc b=>Nat.blt b a
def bx2:Int→Int→Bool
 | .ofNat a,.ofNat b=>Nat.beq a b
 | .negSucc a,.negSucc b=>Nat.beq a b
 |_,_=>false
def ch1:IntKind→Nat
 | .i8=>128| .i16=>32768| .i32=>2147483648| .i64=>9223372036854775808
 | .u8=>256| .u16=>65536| .u32=>4294967296| .u64=>18446744073709551616
def au9(k:IntKind)(n:Int):Int:=match n with
 | .ofNat m=>bif Nat.blt m (ch1 k)then .ofNat m else k.wrap (.ofNat m)
 | .negSucc m=>k.wrap (.negSucc m)
def a81:Int→Option Nat
 | .ofNat n=>some n
 | .negSucc _=>none
def aW3(op:BinOp)(k:IntKind)(x y:Int):Option AV:=
 match op with
 | .add=>some (.int k (au9 k (x+y)))
 | .sub=>some (.int k (au9 k (x-y)))
 | .mul=>some (.int k (au9 k (x*y)))
 | .quo=>bif bx2 y 0 then none else some (.int k (au9 k (x.tdiv y)))
 | .rem=>bif bx2 y 0 then none else some (.int k (x.tmod y))
 | .and=>some (.int k (au9 k ((BitVec.ofInt k.bits x&&&BitVec.ofInt k.bits y).toNat)))
 | .or=>some (.int k (au9 k ((BitVec.ofInt k.bits x|||BitVec.ofInt k.bits y).toNat)))
 | .xor=>some (.int k (au9 k ((BitVec.ofInt k.bits x^^^BitVec.ofInt k.bits y).toNat)))
 | .andNot=>some (.int k (au9 k ((BitVec.ofInt k.bits x&&& ~~~(BitVec.ofInt k.bits y)).toNat)))
 | .eql=>some (.bool (bx2 x y))
 | .neq=>some (.bool (!bx2 x y))
 | .lss=>some (.bool (aK3 x y))
 | .leq=>some (.bool (!aK3 y x))
 | .gtr=>some (.bool (aK3 y x))
 | .geq=>some (.bool (!aK3 x y))
 |_=>none
def aY1(op:BinOp)(k:IntKind)(x y:Int):Option AV:=
 match a81 y with
 |none=>none
 |some y=>
  let n:=min y k.bits
  match op with
  | .shl=>some (.int k (au9 k (x*2^n)))
  | .shr=>some (.int k (match x with| .ofNat m=> .ofNat (m/2^n)| .negSucc m=>(Int.negSucc m).fdiv (2^n)))
  |_=>none
def dl1(a:UInt8)(ih:List UInt8→Bool)(y:List UInt8):Bool:=match y with
 | []=>false
 |b::y=>bif Nat.beq a.toNat b.toNat then ih y else false
def cz8(x:List UInt8):List UInt8→Bool:=List.rec (motive:=fun _=>List UInt8→Bool) List.isEmpty (fun a _=>dl1 a) x
def ltN(y:List UInt8):Bool:=match y with
 | []=>false
 |_::_=>true
def ltS(a:UInt8)(ih:List UInt8→Bool)(y:List UInt8):Bool:=match y with
 | []=>false
 |b::y=>bif Nat.blt a.toNat b.toNat then true else bif Nat.beq a.toNat b.toNat then ih y else false
def ltB(x:List UInt8):List UInt8→Bool:=List.rec (motive:=fun _=>List UInt8→Bool) ltN (fun a _=>ltS a) x
def aY2:Nat:=4294967296
def bI9(op:BinOp)(x y:List UInt8):Option AV:=
 match op with
 | .add=>bif Nat.blt (x.length+y.length) aY2 then some (.str (x++y))else none
 | .eql=>some (.bool (cz8 x y))
 | .neq=>some (.bool (!cz8 x y))
 | .lss=>some (.bool (ltB x y))
 | .leq=>some (.bool (!ltB y x))
 | .gtr=>some (.bool (ltB y x))
 | .geq=>some (.bool (!ltB x y))
 |_=>none
def bb8:AV→Option Bool
 | .nils=>some true
 | .sl _ _ _ _=>some false
 | .us _ _ _ _=>some false
 | .es _ _ _=>some false
 | .es0=>some false
 |_=>none
def bx3:AV→Option Bool
 | .nilm=>some true
 | .map _=>some false
 |_=>none
def bx4:AV→Option Bool
 | .nilf=>some true
 | .func _ _ _=>some false
 | .yield _=>some false
 |_=>none
def ai2(P:Program)(t:TypeId)(cs:List AV)(off:Nat):Option AV:=
 match cS5 P t,ae2 P t with
 |some true,some n=>bif Nat.ble (off+n) cs.length then some (.agg ((cs.drop off).take n))else none
 |some false,some _=>cs[off]?
 |_,_=>none
def ac8(P:Program)(ih:TypeId→AV→AV→Option Bool)(xs ys:List AV):List Field→Option Bool
 | []=>some true
 |f::r=>bif f.name== "_" then ac8 P ih xs ys r else match ai2 P f.type xs f.offset,ai2 P f.type ys f.offset with
  |some a,some b=>match ih f.type a b with
   |some true=>ac8 P ih xs ys r
   |x=>x
  |_,_=>none
def aK4(P:Program)(ih:TypeId→AV→AV→Option Bool)(e n:Nat)(xs ys:List AV):Nat→Nat→Option Bool
 |0,_=>some true
 |k+1,i=>match ai2 P e xs (i*n),ai2 P e ys (i*n)with
  |some a,some b=>match ih e a b with
   |some true=>aK4 P ih e n xs ys k (i+1)
   |x=>x
  |_,_=>none
def cS6(P:Program)(e a o b o':Nat):Option Bool:=match ae2 P e with
 |some (_+1)=>bif Nat.beq a b then some (Nat.beq o o')else none
 |_=>none
def a79(P:Program)(ih:TypeId→AV→AV→Option Bool)(t:TypeId)(x y:AV):Option Bool:=
 match P.underlying t with
 |some .bool=>match x,y with
  | .bool a,.bool b=>some (a==b)
  |_,_=>none
 |some (.int _)=>match x,y with
  | .int k a,.int k' b=>if k=k' then some (bx2 a b)else none
  | .oint k a,.oint k' b=>if k=k' then(bif SX.beq a b then some true else none)else none
  |_,_=>none
 |some .string=>match x,y with
  | .str a,.str b=>some (cz8 a b)
  | .ostr a,.ostr b=>bif SX.beq a b then some true else none
  |_,_=>none
 |some (.pointer e)=>match x,y with
  | .nilp,.nilp=>some true
  | .nilp,.ptr _ _=>some false
  | .ptr _ _,.nilp=>some false
  | .ptr a o,.ptr b o'=>cS6 P e a o b o'
  |_,_=>none
 |some (.interface _)=>match x,y with
  | .nili,.nili=>some true
  | .nili,.iface _ _=>some false
  | .iface _ _,.nili=>some false
  | .iface tx vx,.iface ty vy=>bif Nat.beq tx ty then(match P.info? tx with
      |some i=>bif i.comparable then ih tx vx vy else none
      |none=>none)
    else some false
  |_,_=>none
 |some (.slice _)=>match x,y with
  | .nils,b=>bb8 b
  |a,.nils=>bb8 a
  |_,_=>none
 |some (.map _ _)=>match x,y with
  | .nilm,b=>bx3 b
  |a,.nilm=>bx3 a
  |_,_=>none
 |some (.func _ _ _)=>match x,y with
  | .nilf,b=>bx4 b
  |a,.nilf=>bx4 a
  |_,_=>none
 |some (.struct fields)=>match x,y with
  | .agg xs,.agg ys=>bif P.stoodInHeld t then none else ac8 P ih xs ys fields.toList
  |_,_=>none
 |some (.array len elem)=>match x,y with
  | .agg xs,.agg ys=>match ae2 P elem with
    |none=>none
    |some n=>aK4 P ih elem n xs ys len 0
  |_,_=>none
 |_=>none
def dl2(_:TypeId)(_ _:AV):Option Bool:=none
def eqE(P:Program)(n:Nat):TypeId→AV→AV→Option Bool:=Nat.rec (motive:=fun _=>TypeId→AV→AV→Option Bool) dl2 (fun _=>a79 P) n
def ai6:Operand→Bool
 | .const _=>true
 |_=>false
def bQ4(P:Program)(t:TypeId)(x y:Operand)(a b:AV):Bool:=
 match a with
 | .nili=>ai6 x||ai6 y||(match b with
   | .nili=>false
   | .opq _=>false
   | .any=>false
   |_=>true)
 | .any=>false
 | .agg _=> !(P.eqGuardType P.depth t)
 | .opq _=>false
 |_=>true
def ar5(P:Program)(op:BinOp)(t:TypeId)(x y:Operand)(a b:AV):Bool:=
 match op with
 | .eql| .neq=>bQ4 P t x y a b
 |_=>true
def dh6(op:BinOp)(k k':IntKind)(a b:Int):Option AV:=match op with
 | .shl=>aY1 .shl k a b
 | .shr=>aY1 .shr k a b
 |op=>if k=k' then aW3 op k a b else none
def ch2(P:Program)(op:BinOp)(t:TypeId)(x y:AV):Option AV:=match op with
 | .eql=>(eqE P 10000 t x y).map .bool
 | .neq=>(eqE P 10000 t x y).map fun b=> .bool (!b)
 |_=>none
def da4(op:BinOp)(k:IntKind)(a:Int)(n:Nat):Option AV:=match op,k with
 | .gtr,.i64=>bif aK3 (.ofNat n) a then none else some (.bool false)
 |_,_=>none
def d66(P:Program)(op:BinOp)(t:TypeId)(x y:AV):Option AV:=
 match x with
 | .int k a=>match y with
   | .int k' b=>dh6 op k k' a b
   | .atl n=>da4 op k a n
   |_=>none
 | .str a=>match y with
   | .str b=>bI9 op a b
   |_=>none
 |x=>ch2 P op t x y
def unE(op:UnOp)(x:AV):Option AV:=
 match op,x with
 | .neg,.int k n=>some (.int k (au9 k (0-n)))
 | .xor,.int k n=>aW3 .xor k (if k.signed then-1 else k.max) n
 | .not,.bool b=>some (.bool !b)
 |_,_=>none
def bQ5(P:Program)(t:TypeId)(a:AV)(h:Heap):Option AV:=
 match a with
 | .ptr b o=>match h.get b with
   |some (.cells _ _ cs)=>ai2 P t cs o
   |_=>none
 |_=>none
def a29(cs:List AV)(o:Nat)(vs:List AV):List AV:=cs.take o++vs++cs.drop (o+vs.length)
def putCells(h:Heap)(b o:Nat)(vs:List AV):Option Heap:=
 match vs with
 | []=>some h
 |vs=>match h.get b with
  |some (.cells e fz cs)=>
   bif Nat.ble h.wm b&&Nat.ble fz o&&Nat.ble (o+vs.length) cs.length&&vs.all AV.one then some (h.put b (some (.cells e fz (a29 cs o vs))))else none
  |_=>none
def bb9(P:Program)(t:TypeId)(a v:AV)(h:Heap):Option Heap:=
 match a,ae2 P t with
 | .ptr b o,some n=>bif v.nt&&Nat.beq v.cells.length n then putCells h b o v.cells else none
 |_,_=>none
def aB0(t:TypeId)(v:AV)(h:Heap):Option (AV×Heap):=
 bif v.cells.all AV.one then some (.ptr h.next 0,h.new (.cells t 0 v.cells))else none
def bm7(place:Nat→Option (Nat×Nat))(cells:List AV):List (Nat×AV)→Option (List AV)
 | []=>some cells
 |(i,v)::rest=>
  match place i with
  |none=>none
  |some (off,size)=>bif v.nt&&(Nat.beq v.cells.length size&&Nat.ble (off+v.cells.length) cells.length)then bm7 place (a29 cells off v.cells) rest else none
def bQ6(P:Program)(t:TypeId)(parts:List (Nat×AV)):Option AV:=
 match X0 P t,P.underlying t with
 |some z,some (.struct fields)=>(bm7 (fun i=>(fields[i]?).bind fun f=>(ae2 P f.type).map fun s=>(f.offset,s)) z.cells parts).bind fun cs=>
  bif fields.all (fun f=>(ae2 P f.type).isSome)&&z.nt then some (.agg cs)else none
 |some z,some (.array _ elem)=>match ae2 P elem with
  |some s=>bif z.nt then(bm7 (fun i=>some (i*s,s)) z.cells parts).map .agg else none
  |none=>none
 |_,_=>none
def rep:Nat→List AV→List AV
 |0,_=>[]
 |n+1,l=>l++rep n l
def a03(P:Program)(t:TypeId)(len:Nat)(parts:List (Nat×AV))(h:Heap):Option (AV×Heap):=
 match P.underlying t with
 |some (.slice elem)=>match ae2 P elem,X0 P elem with
  |some s,some z=>bif Nat.beq z.cells.length s&&Nat.blt 0 s&&Nat.ble (len*s) 1000000 then
   match bm7 (fun i=>some (i*s,s)) (rep len z.cells) parts with
   |some cs=>bif cs.all AV.one then some (.sl h.next 0 len len,h.new (.cells elem 0 cs))else none
   |none=>none
   else none
  |_,_=>none
 |_=>none
def a31(P:Program)(t:TypeId)(l c:AV)(h:Heap):Option (AV×Heap):=
 match P.underlying t,l,c with
 |some (.slice elem),.int _ l,.int _ c=>match a81 l,a81 c,ae2 P elem,X0 P elem,P.info? elem with
  |some l,some c,some s,some z,some i=>
   bif Nat.ble l c&&Nat.ble c 1000000&&Nat.ble i.bytes 1000&&Nat.beq z.cells.length s&&Nat.blt 0 s&&z.cells.all AV.one then some (.sl h.next 0 l c,h.new (.cells elem 0 (rep c z.cells)))else none
  |_,_,_,_,_=>none
 |_,_,_=>none
def an2(P:Program)(s:TypeId)(a:AV)(f:Nat):Option AV:=
 match P.underlying s,a with
 |some (.struct fields),.ptr b o=>match fields[f]? with
  |some f=>match ae2 P f.type with
   |some (_+1)=>some (.ptr b (o+f.offset))
   |_=>none
  |none=>none
 |_,_=>none
def bx5(P:Program)(t:TypeId)(x:AV)(f:Nat):Option AV:=
 match P.underlying t,x with
 |some (.struct fields),.agg cs=>(fields[f]?).bind fun f=>ai2 P f.type cs f.offset
 |_,_=>none
def aB1(P:Program)(t:TypeId)(x i:AV):Option AV:=
 match i with
 | .int _ i=>match a81 i,P.underlying t,x with
   |some i,some (.array len elem),.ptr b o=>match ae2 P elem with
    |some s=>bif Nat.blt i len then some (.ptr b (o+i*s))else none
    |none=>none
   |some i,some (.slice elem),.sl b o len _=>match ae2 P elem with
    |some s=>bif Nat.blt i len then some (.ptr b (o+i*s))else none
    |none=>none
   |some i,some (.slice elem),.us b o len _=>match ae2 P elem with
    |some s=>bif Nat.blt i len then some (.ptr b (o+i*s))else none
    |none=>none
   |_,_,_=>none
 |_=>none
def bx6(P:Program)(t:TypeId)(x i:AV):Option AV:=
 match i with
 | .int _ i=>match a81 i,P.underlying t,x with
   |some i,some (.array len elem),.agg cs=>match ae2 P elem with
    |some s=>bif Nat.blt i len then ai2 P elem cs (i*s)else none
    |none=>none
   |some i,some .string,.str s=>(s[i]?).map fun b=> .int .u8 b.toNat
   |_,_,_=>none
 |_=>none
def X8(x:Option AV)(d:Nat):Option Nat:=
 match x with
 |none=>some d
 |some (.int _ i)=>a81 i
 |some _=>none
def bQ7(P:Program)(t:TypeId)(x:AV)(lo hi mx:Option AV)(h:Heap):Option AV:=
 match P.underlying t,x with
 |some .string,.str s=>match X8 lo 0,X8 hi s.length,mx with
  |some l,some e,none=>bif Nat.ble l e&&Nat.ble e s.length then some (.str ((s.drop l).take (e-l)))else none
  |_,_,_=>none
 |some (.slice elem),.nils=>match X8 lo 0,X8 hi 0,X8 mx 0,ae2 P elem with
  |some 0,some 0,some 0,some _=>some .nils
  |_,_,_,_=>none
 |some (.slice elem),.es b o sz=>match X8 lo 0,X8 hi 0,mx,ae2 P elem with
  |some 0,some 0,none,some _=>some (.es b o sz)
  |some 0,some 0,some m,some _=>match X8 (some m) 0 with
   |some 0=>some .es0
   |_=>none
  |_,_,_,_=>none
 |some (.slice elem),.es0=>match X8 lo 0,X8 hi 0,X8 mx 0,ae2 P elem with
  |some 0,some 0,some 0,some _=>some .es0
  |_,_,_,_=>none
 |some (.slice elem),.sl b o len cap=>match X8 lo 0,X8 hi len,X8 mx cap,ae2 P elem with
  |some l,some e,some m,some s=>bif Nat.ble l e&&Nat.ble e m&&Nat.ble m cap then some (.sl b (bif Nat.beq m l then o else o+l*s) (e-l) (m-l))else none
  |_,_,_,_=>none
 |some (.slice elem),.us b o len sz=>match X8 lo 0,X8 hi len,ae2 P elem,h.get b with
  |some l,some e,some s,some (.cells _ _ cs)=>bif Nat.beq s sz&&Nat.ble l e&&Nat.blt 0 s&&Nat.ble (o+e*s) cs.length then
   (match mx with
   |none=>bif Nat.blt (o+l*s) cs.length||Nat.beq l 0 then some (.us b (o+l*s) (e-l) sz)else some (.es b (o+l*s) sz)
   |some m=>match X8 (some m) 0 with
    |some m=>bif Nat.ble e m&&Nat.ble (o+m*s) cs.length then some (.sl b (bif Nat.beq m l then o else o+l*s) (e-l) (m-l))else none
    |none=>none)
   else none
  |_,_,_,_=>none
 |some (.array n elem),.ptr b o=>match X8 lo 0,X8 hi n,X8 mx n,ae2 P elem with
  |some l,some e,some m,some s=>bif Nat.ble l e&&Nat.ble e m&&Nat.ble m n then some (.sl b (bif Nat.beq m l then o else o+l*s) (e-l) (m-l))else none
  |_,_,_,_=>none
 |_,_=>none
def ac9(s n:Nat)(x:AV)(h:Heap):Option (List AV):=
 match x with
 | .nils=>bif Nat.beq n 0 then some []else none
 | .es _ _ _| .es0=>bif Nat.beq n 0 then some []else none
 | .str l=>some ((l.take n).map fun b=> .int .u8 b.toNat)
 | .sl b o _ _| .us b o _ _=>match h.get b with
   |some (.cells _ _ cs)=>bif Nat.ble (o+n*s) cs.length&&((cs.drop o).take (n*s)).all AV.one then some ((cs.drop o).take (n*s))else none
   |_=>none
 |_=>none
def aE5:AV→Option Nat
 | .nils| .es _ _ _| .es0=>some 0
 | .str l=>some l.length
 | .sl _ _ n _| .us _ _ n _=>some n
 |_=>none
def room:Nat:=1000000
def d67(s:Nat)(y:AV)(h:Heap):Option (Nat×List AV):=
 match aE5 y with
 |some n=>(ac9 s n y h).bind fun l=>bif Nat.beq l.length (n*s)then some (n,l)else none
 |none=>none
def dh7(z:List AV)(y:AV):Option (Nat×List AV):=
 match y with
 | .int _ m=>match a81 m with
   |some n=>bif Nat.ble n room&&z.all AV.one&&Nat.blt 0 z.length then some (n,rep n z)else none
   |none=>none
 |_=>none
def da5(P:Program)(yt:TypeId)(s:Nat)(z:List AV)(y:AV)(h:Heap):Option (Nat×List AV):=
 match P.underlying yt with
 |some (.slice _)=>d67 s y h
 |some .string=>d67 s y h
 |some (.int _)=>dh7 z y
 |_=>none
def b22(elem s:Nat)(x:AV)(n:Nat)(new:List AV)(h:Heap):Option (AV×Heap):=
 match x with
 | .nils=>some (.us h.next 0 n s,h.new (.cells elem 0 new))
 | .es0=>some (.us h.next 0 n s,h.new (.cells elem 0 new))
 | .sl b o len cap=>
   bif Nat.ble (len+n) cap then(putCells h b (o+len*s) new).map fun h'=>(.sl b o (len+n) cap,h')
   else(ac9 s len x h).bind fun old=>bif Nat.beq old.length (len*s)then some (.us h.next 0 (len+n) s,h.new (.cells elem 0 (old++new)))else none
 | .us b o len sz=>bif !(Nat.beq s sz)then none else match h.get b with
   |some (.cells e fz cs)=>
    bif Nat.ble (o+(len+n)*s) cs.length then(putCells h b (o+len*s) new).map fun h'=>(.us b o (len+n) s,h')
    else bif Nat.ble h.wm b&&Nat.ble fz (o+len*s)&&Nat.ble (o+len*s) cs.length&&Nat.beq e elem then
     some (.us h.next 0 (len+n) s,(h.put b none).new (.cells e (fz-o) ((cs.drop o).take (len*s)++new)))
    else none
   |_=>none
 | .es b o sz=>bif !(Nat.beq s sz)then none else match h.get b with
   |some (.cells e fz cs)=>
    bif Nat.ble h.wm b&&Nat.ble fz o&&Nat.beq e elem then some (.us h.next 0 n s,(h.put b none).new (.cells e 0 new))else none
   |_=>none
 |_=>none
def bm8(s:Nat)(x:AV)(h:Heap):Bool:=
 match x with
 | .nils=>true
 | .es _ _ _=>true
 | .es0=>true
 | .sl _ _ l c=>Nat.ble l c
 | .us b o l sz=>Nat.beq s sz&&(match h.get b with
   |some (.cells _ _ cs)=>Nat.ble (o+l*s) cs.length
   |_=>false)
 |_=>false
def av0(P:Program)(t:TypeId):Bool:=match P.underlying t with
 |some (.struct fs)=>match fs[0]? with
  |some f=>match P.underlying f.type with
   |some (.pointer u)=>Nat.beq u t
   |_=>false
  |none=>false
 |_=>false
def bm9(P:Program)(argTypes:Array TypeId)(x y:AV)(h:Heap):Option (AV×Heap):=
 match(argTypes[0]?).bind P.underlying,argTypes[1]? with
 |some (.slice elem),some yt=>match aE5 x,P.info? elem,X0 P elem with
  |some lx,some i,some z=>
   match da5 P yt i.size z.cells y h with
   |none=>none
   |some (n,new)=>
    bif Nat.blt 0 i.size&&Nat.beq z.cells.length i.size&&Nat.ble (lx+n) room&&Nat.ble i.bytes 1000&&Nat.beq argTypes.size 2&& !(av0 P elem)then
     (bif Nat.beq n 0 then(bif bm8 i.size x h then some (x,h)else none)else b22 elem i.size x n new h)
    else none
  |_,_,_=>none
 |_,_=>none
def cu1(x:AV)(n:Nat)(new:List AV)(h:Heap):Option (AV×Heap):=
 match x with
 | .nils=>some (.int .i64 n,h)
 | .es _ _ _=>some (.int .i64 n,h)
 | .es0=>some (.int .i64 n,h)
 | .sl b o _ _=>(putCells h b o new).map fun h'=>(.int .i64 n,h')
 | .us b o _ _=>(putCells h b o new).map fun h'=>(.int .i64 n,h')
 |_=>none
def cz9(P:Program)(argTypes:Array TypeId)(x y:AV)(h:Heap):Option (AV×Heap):=
 match(argTypes[0]?).bind P.underlying with
 |some (.slice elem)=>match ae2 P elem,aE5 x,aE5 y with
  |some s,some lx,some ly=>(ac9 s (Nat.min ly lx) y h).bind fun new=>cu1 x (Nat.min ly lx) new h
  |_,_,_=>none
 |_=>none
def bc0:AV→AV→Bool
 | .bool a,.bool b=>a==b
 | .int k a,.int k' b=>(k==k')&&bx2 a b
 | .str a,.str b=>cz8 a b
 |_,_=>false
def b23:List AV→List AV→Bool
 | [],[]=>true
 |a::x,b::y=>bc0 a b&&b23 x y
 |_,_=>false
def bQ8:AV→AV→Bool
 | .agg xs,.agg ys=>b23 xs ys
 |x,y=>bc0 x y
end
end Go.Ev
