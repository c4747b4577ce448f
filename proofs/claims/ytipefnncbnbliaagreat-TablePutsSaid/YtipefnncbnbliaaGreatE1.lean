import GoSem.Step
import Derived.RangeFuncLeaves
import Derived.WalkKit
set_option linter.unusedSimpArgs false
set_option linter.unusedVariables false
namespace Go.Ev
open Go
abbrev b9:=@if_neg
abbrev e8:=@if_pos
abbrev e9:=@decide_eq_true
abbrev i6:=@Nat.le_refl
abbrev j0:=@Option.some.injEq
abbrev j5:=@decide_eq_false
abbrev j6:=@of_decide_eq_true
abbrev j7:=@Bool.and_eq_true
abbrev j8:=@List.mem_map
abbrev j9:=@List.getD_eq_getElem?_getD
abbrev k5:=@Nat.lt_or_ge
abbrev k6:=@List.all_eq_true
abbrev k7:=@List.length_append
abbrev k8:=@List.length_take
abbrev k9:=@List.getElem?_eq_getElem
abbrev l5:=@List.length_map
abbrev l6:=@Bool.false_and
abbrev l7:=@List.mem_filter
abbrev l9:=@Nat.zero_add
abbrev m7:=@Option.bind_eq_some_iff
abbrev m8:=@List.map_cons
abbrev m9:=@List.getElem?_append_right
abbrev n5:=@List.mem_cons
abbrev n7:=@Nat.le_trans
abbrev n8:=@Bool.false_eq_true
abbrev n9:=@List.mem_singleton
abbrev o7:=@List.map_map
abbrev o8:=@List.mem_range
abbrev o9:=@Option.map_eq_some_iff
abbrev r9:=@Nat.zero_le
abbrev s6:=@List.append_nil
abbrev s7:=@Bool.or_eq_true
abbrev s8:=@Nat.add_mul
abbrev s9:=@Array.getD_eq_getD_getElem?
abbrev t7:=@List.getElem?_eq_none
abbrev t8:=@List.getElem?_append_left
abbrev u9:=@List.map_append
abbrev x5:=@Int.le_refl
abbrev x6:=@Nat.lt_of_lt_of_le
abbrev x7:=@List.take_append_drop
abbrev x8:=@List.mem_append
abbrev x9:=@List.mem_cons_of_mem
abbrev y5:=@Nat.add_assoc
abbrev y6:=@Bool.not_eq_true'
abbrev y7:=@List.map_congr_left
abbrev z8:=@List.filter_cons
abbrev A0:=@List.getElem?_eq_some_iff
abbrev A1:=@List.take_length
abbrev A2:=@Nat.mul_le_mul_right
abbrev A3:=@Array.getElem?_eq_getElem
abbrev A4:=@List.append_assoc
abbrev A5:=@List.pairwise_cons
abbrev A6:=@List.find?_eq_none
abbrev A7:=@Prod.mk.injEq
abbrev A8:=@Nat.min_eq_left
abbrev A9:=@Bool.false_or
abbrev B0:=@List.getElem_of_mem
abbrev B1:=@List.length_eq_zero_iff
abbrev B2:=@Bool.not_eq_true
abbrev B3:=@List.getElem?_take
abbrev B4:=@Bool.true_and
abbrev B5:=@Nat.le_add_right
abbrev B6:=@List.mem_cons_self
abbrev B7:=@List.eq_nil_of_length_eq_zero
abbrev B8:=@List.getElem?_drop
abbrev B9:=@List.getElem?_map
abbrev C0:=@List.flatMap_cons
abbrev C1:=@List.mem_flatMap
abbrev C3:=@Nat.add_sub_cancel_left
abbrev C4:=@List.length_set
abbrev C5:=@Array.getElem?_eq_none
abbrev C6:=@List.filter_append
abbrev C7:=@List.getElem_mem
abbrev C8:=@List.getD_cons_zero
abbrev C9:=@List.getD_cons_succ
abbrev D6:=@Nat.le_of_mul_le_mul_right
abbrev D7:=@Bool.and_true
abbrev D8:=@Nat.not_lt
abbrev D9:=@Bool.eq_iff_iff
abbrev E4:=@Nat.add_comm
abbrev E5:=@Bool.not_true
abbrev E6:=@List.all_append
abbrev E7:=@List.any_eq_false
abbrev E8:=@List.nodup_cons
abbrev E9:=@Int.not_lt
abbrev F5:=@Int.add_mul
abbrev F6:=@List.range'_succ
abbrev F7:=@Nat.one_mul
abbrev F8:=@List.length_drop
abbrev F9:=@List.take_left
abbrev G0:=@List.drop_left
abbrev G1:=@List.not_mem_nil
abbrev G2:=@Int.mul_comm
abbrev G3:=@Int.mul_le_mul_of_nonneg_right
abbrev G4:=@List.map_id
abbrev G5:=@Nat.lt_trichotomy
abbrev G6:=@Nat.mul_le_mul
abbrev G7:=@List.mem_of_getElem?
abbrev G8:=@List.size_toArray
abbrev G9:=@List.drop_zero
abbrev I0:=@List.take_of_length_le
abbrev I1:=@List.mem_append_left
abbrev I2:=@Nat.beq_eq
abbrev I3:=@List.perm_ext_iff_of_nodup
abbrev I4:=@Int.emod_nonneg
abbrev I5:=@Int.emod_lt_of_pos
abbrev I6:=@Int.mul_nonneg
abbrev I7:=@Int.sub_mul
abbrev I8:=@List.nodup_iff_pairwise_ne
abbrev I9:=@List.pairwise_map
abbrev J0:=@List.Pairwise.imp
abbrev J1:=@Nat.not_lt_zero
abbrev J2:=@List.forIn_cons
abbrev J3:=@List.ext_getElem
abbrev J4:=@List.getElem?_toArray
abbrev J5:=@Nat.zero_mul
abbrev J6:=@Array.toList_modify
abbrev J7:=@Array.toList_push
abbrev J8:=@List.range_succ_eq_map
abbrev J9:=@List.range_eq_range'
abbrev K0:=@Array.toList_inj
abbrev K4:=@List.drop_eq_nil_of_le
abbrev K5:=@Array.getElem?_setIfInBounds
abbrev K6:=@List.length_filter_le
abbrev K7:=@Nat.mul_comm
abbrev K8:=@List.flatMap_map
abbrev K9:=@Int.not_le
abbrev M3:=@Nat.min_eq_right
abbrev M4:=@Int.add_zero
abbrev M5:=@Nat.mul_le_mul_left
abbrev M6:=@Nat.mul_div_le
abbrev M7:=@List.mapM_cons
abbrev M8:=@Nat.le_succ_of_le
abbrev M9:=@Bool.not_false
abbrev N0:=@Nat.succ_ne_zero
abbrev N1:=@Nat.add_sub_cancel
abbrev N2:=@List.drop_append
abbrev N3:=@List.drop_drop
abbrev N4:=@List.mem_of_mem_take
abbrev N5:=@Nat.eq_zero_or_pos
abbrev N6:=@Nat.mod_lt
abbrev N7:=@List.cons.inj
abbrev N8:=@List.flatMap_append
abbrev N9:=@Nat.le_of_not_lt
abbrev O0:=@List.ext_getElem?
abbrev O1:=@List.drop_of_length_le
abbrev O2:=@List.any_eq_true
abbrev O3:=@List.nodup_range
abbrev O4:=@List.map_nil
abbrev O5:=@List.pairwise_iff_getElem
abbrev O6:=@List.Perm.refl
abbrev O7:=@Prod.ext
abbrev O8:=@List.take_add_one
abbrev O9:=@Int.ediv_le_self
abbrev P0:=@Int.emod_def
abbrev P3:=@Int.ediv_self
abbrev P4:=@List.take_append_getElem
abbrev P5:=@List.length_pos_iff
abbrev P6:=@Int.mul_add
abbrev P7:=@List.getElem_map
abbrev P8:=@Nat.ne_of_lt
abbrev P9:=@Nat.lt_succ_of_lt
abbrev Q0:=@Int.fdiv_eq_ediv_of_nonneg
abbrev Q1:=@List.take_take
abbrev Q2:=@List.drop_take
abbrev Q3:=@Array.foldl_toList
abbrev Q4:=@Option.isSome_iff_exists
abbrev Q5:=@Array.all_eq_true'
abbrev Q6:=@Array.getElem?_modify
abbrev Q7:=@Array.toList_eraseIdx
abbrev Q8:=@List.range_succ
abbrev Q9:=@Nat.le_antisymm
abbrev R0:=@Nat.sub_self
abbrev R1:=@List.take_append_of_le_length
abbrev R2:=@List.mem_append_right
abbrev R3:=@Bool.not_not
abbrev R4:=@Bool.or_false
abbrev R5:=@List.filter_eq_nil_iff
abbrev R6:=@List.drop_eq_getElem_cons
abbrev R7:=@List.nodup_append
abbrev R8:=@Option.some.inj
abbrev R9:=@Nat.le_of_eq
abbrev S0:=@Nat.max_eq_right
abbrev S1:=@Nat.max_eq_left
abbrev S2:=@Array.getElem?_eq_some_iff
abbrev S3:=@Nat.lt_irrefl
abbrev S4:=@List.ne_nil_of_mem
abbrev S5:=@List.Perm.append_left
abbrev S6:=@Int.tmod_eq_emod_of_nonneg
abbrev S8:=@Int.ediv_nonneg
abbrev T1:=@Int.toNat_of_nonneg
abbrev T2:=@Bool.and_false
abbrev T3:=@List.map_eq_flatMap
abbrev T4:=@List.foldl_append
abbrev T5:=@List.filter_sublist
abbrev T6:=@List.mem_iff_getElem
abbrev T7:=@Nat.lt_mul_div_succ
abbrev T8:=@Array.mapM_eq_mapM_toList
abbrev T9:=@List.mem_of_mem_drop
abbrev U0:=@Array.filter_eq_empty_iff
abbrev U3:=@Array.getElem?_append_left
abbrev U4:=@List.pairwise_append
abbrev U5:=@List.findIdx_eq_length
abbrev U6:=@List.eraseIdx_sublist
abbrev U7:=@List.mem_or_eq_of_mem_set
abbrev U8:=@Array.getElem?_replicate
abbrev U9:=@List.perm_append_singleton
abbrev V0:=@List.filter_reverse
abbrev V3:=@List.length_reverse
abbrev V4:=@Int.mul_ediv_add_emod
abbrev V5:=@Int.lt_of_mul_lt_mul_left
abbrev V6:=@Int.le_ediv_iff_mul_le
abbrev V7:=@Int.ediv_neg_of_neg_of_pos
abbrev V8:=@List.filter_cons_of_neg
abbrev V9:=@List.filter_cons_of_pos
abbrev W1:=@List.getElem?_set_ne
abbrev W2:=@List.filter_eq_self
abbrev W3:=@Option.isNone_iff_eq_none
abbrev W4:=@List.Perm.eq_of_pairwise
noncomputable section
structure P16 (α:Type)where
 f0:α
 f1:α
 f2:α
 f3:α
 f4:α
 f5:α
 f6:α
 f7:α
 f8:α
 f9:α
 f10:α
 f11:α
 f12:α
 f13:α
 f14:α
 f15:α
structure Dg where
 g:(α:Type)->P16 α->α
 s:(α:Type)->α->P16 α->P16 α
def dg0:Dg:=⟨λ_ t=>t.f0,λ_ x t=>⟨x,t.f1,t.f2,t.f3,t.f4,t.f5,t.f6,t.f7,t.f8,t.f9,t.f10,t.f11,t.f12,t.f13,t.f14,t.f15⟩⟩
def dg1:Dg:=⟨λ_ t=>t.f1,λ_ x t=>⟨t.f0,x,t.f2,t.f3,t.f4,t.f5,t.f6,t.f7,t.f8,t.f9,t.f10,t.f11,t.f12,t.f13,t.f14,t.f15⟩⟩
def dg2:Dg:=⟨λ_ t=>t.f2,λ_ x t=>⟨t.f0,t.f1,x,t.f3,t.f4,t.f5,t.f6,t.f7,t.f8,t.f9,t.f10,t.f11,t.f12,t.f13,t.f14,t.f15⟩⟩
def dg3:Dg:=⟨λ_ t=>t.f3,λ_ x t=>⟨t.f0,t.f1,t.f2,x,t.f4,t.f5,t.f6,t.f7,t.f8,t.f9,t.f10,t.f11,t.f12,t.f13,t.f14,t.f15⟩⟩
def dg4:Dg:=⟨λ_ t=>t.f4,λ_ x t=>⟨t.f0,t.f1,t.f2,t.f3,x,t.f5,t.f6,t.f7,t.f8,t.f9,t.f10,t.f11,t.f12,t.f13,t.f14,t.f15⟩⟩
def dg5:Dg:=⟨λ_ t=>t.f5,λ_ x t=>⟨t.f0,t.f1,t.f2,t.f3,t.f4,x,t.f6,t.f7,t.f8,t.f9,t.f10,t.f11,t.f12,t.f13,t.f14,t.f15⟩⟩
def dg6:Dg:=⟨λ_ t=>t.f6,λ_ x t=>⟨t.f0,t.f1,t.f2,t.f3,t.f4,t.f5,x,t.f7,t.f8,t.f9,t.f10,t.f11,t.f12,t.f13,t.f14,t.f15⟩⟩
def dg7:Dg:=⟨λ_ t=>t.f7,λ_ x t=>⟨t.f0,t.f1,t.f2,t.f3,t.f4,t.f5,t.f6,x,t.f8,t.f9,t.f10,t.f11,t.f12,t.f13,t.f14,t.f15⟩⟩
def dg8:Dg:=⟨λ_ t=>t.f8,λ_ x t=>⟨t.f0,t.f1,t.f2,t.f3,t.f4,t.f5,t.f6,t.f7,x,t.f9,t.f10,t.f11,t.f12,t.f13,t.f14,t.f15⟩⟩
def dg9:Dg:=⟨λ_ t=>t.f9,λ_ x t=>⟨t.f0,t.f1,t.f2,t.f3,t.f4,t.f5,t.f6,t.f7,t.f8,x,t.f10,t.f11,t.f12,t.f13,t.f14,t.f15⟩⟩
def e92:Dg:=⟨λ_ t=>t.f10,λ_ x t=>⟨t.f0,t.f1,t.f2,t.f3,t.f4,t.f5,t.f6,t.f7,t.f8,t.f9,x,t.f11,t.f12,t.f13,t.f14,t.f15⟩⟩
def e93:Dg:=⟨λ_ t=>t.f11,λ_ x t=>⟨t.f0,t.f1,t.f2,t.f3,t.f4,t.f5,t.f6,t.f7,t.f8,t.f9,t.f10,x,t.f12,t.f13,t.f14,t.f15⟩⟩
def e94:Dg:=⟨λ_ t=>t.f12,λ_ x t=>⟨t.f0,t.f1,t.f2,t.f3,t.f4,t.f5,t.f6,t.f7,t.f8,t.f9,t.f10,t.f11,x,t.f13,t.f14,t.f15⟩⟩
def e95:Dg:=⟨λ_ t=>t.f13,λ_ x t=>⟨t.f0,t.f1,t.f2,t.f3,t.f4,t.f5,t.f6,t.f7,t.f8,t.f9,t.f10,t.f11,t.f12,x,t.f14,t.f15⟩⟩
def e96:Dg:=⟨λ_ t=>t.f14,λ_ x t=>⟨t.f0,t.f1,t.f2,t.f3,t.f4,t.f5,t.f6,t.f7,t.f8,t.f9,t.f10,t.f11,t.f12,t.f13,x,t.f15⟩⟩
def e97:Dg:=⟨λ_ t=>t.f15,λ_ x t=>⟨t.f0,t.f1,t.f2,t.f3,t.f4,t.f5,t.f6,t.f7,t.f8,t.f9,t.f10,t.f11,t.f12,t.f13,t.f14,x⟩⟩
def sO(n:Nat):Dg:=bif Nat.ble 8 n then(bif Nat.ble 12 n then(bif Nat.ble 14 n then(bif Nat.ble 15 n then e97 else e96)else(bif Nat.ble 13 n then e95 else e94))else(bif Nat.ble 10 n then(bif Nat.ble 11 n then e93 else e92)else(bif Nat.ble 9 n then dg9 else dg8)))else(bif Nat.ble 4 n then(bif Nat.ble 6 n then(bif Nat.ble 7 n then dg7 else dg6)else(bif Nat.ble 5 n then dg5 else dg4))else(bif Nat.ble 2 n then(bif Nat.ble 3 n then dg3 else dg2)else(bif Nat.ble 1 n then dg1 else dg0)))
def P16.const{α:Type}(x:α):P16 α:=⟨x,x,x,x,x,x,x,x,x,x,x,x,x,x,x,x⟩
inductive Val where
 |vi (n:Int)
 |vs (l:List UInt8)
 |vb (x:Bool)
 |vl (r:List Val)
 deriving Inhabited
def Val.toI:Val->Int
 | .vi n=>n
 |_=>0
def Val.toS:Val->List UInt8
 | .vs l=>l
 |_=>[]
def Val.toB:Val->Bool
 | .vb x=>x
 |_=>false
def Val.toL:Val->List Val
 | .vl r=>r
 |_=>[]
inductive CT where
 |int (k:IntKind)
 |str
 |bool
 deriving DecidableEq
inductive Prim where
 |ar (op:BinOp) (k:IntKind)
 |cmp (op:BinOp)
 |scmp (op:BinOp)
 |cat
 |not
 |and
 |or
 |beq
 |ite
 |un (op:UnOp) (k:IntKind)
 |conv (k:IntKind)
 |slen
 |sat
 |ssub
 |llen
 |lget
 |lset
 |lcat
 |lsub
 |row
 |imin
 |imax
 |iadd
 |isub
 |sbytes
 |bstr
 |bok
 |mfind (ks:List CT)
 |mdel (ks:List CT)
 |lrep
 |scnt
 |sidx
 deriving DecidableEq
inductive SX where
 |ci (n:Int)
 |cs (l:List UInt8)
 |cb (x:Bool)
 |va (n:Nat)
 |op (p:Prim) (l:List SX)
 |app (f:Nat) (l:List SX)
 deriving Inhabited
inductive AV where
 |bool (b:Bool)
 |int (k:IntKind) (n:Int)
 |str (s:List UInt8)
 |nilp
 |ptr (b o:Nat)
 |glob (g:Nat)
 |nils
 |sl (b o len cap:Nat)
 |us (b o len sz:Nat)
 |es (b o sz:Nat)
 |es0
 |nilm
 |map (r:Nat)
 |nilf
 |func (fn:Fn) (first cap:List AV)
 |yield (l:Nat)
 |nili
 |iface (t:Nat) (v:AV)
 |agg (cs:List AV)
 |tup (vs:List AV)
 |opq (n:Nat)
 |oint (k:IntKind) (e:SX)
 |ostr (e:SX)
 |obool (e:SX)
 |osl (b:Nat) (off len:SX) (sz:Nat)
 |optr (b:Nat) (idx:SX) (j sz:Nat)
 |ous (b:Nat) (len:SX) (sz:Nat)
 |atl (n:Nat)
 |any
 deriving Inhabited
def AV.undef:AV:= .tup []
def JI:List UInt8->List UInt8->Bool
 | [],[]=>true
 |a::x,b::y=>bif Nat.beq a.toNat b.toNat then JI x y else false
 |_,_=>false
def Mo:Int->Int->Bool
 | .ofNat a,.ofNat b=>Nat.beq a b
 | .negSucc a,.negSucc b=>Nat.beq a b
 |_,_=>false
mutual
def SX.beq:SX->SX->Bool
 | .ci a,.ci b=>Mo a b
 | .cs a,.cs b=>JI a b
 | .cb a,.cb b=>a==b
 | .va a,.va b=>Nat.beq a b
 | .op p a,.op q b=>decide (p=q)&&SX.beqs a b
 | .app p a,.app q b=>Nat.beq p q&&SX.beqs a b
 |_,_=>false
def SX.beqs:List SX->List SX->Bool
 | [],[]=>true
 |a::x,b::y=>SX.beq a b&&SX.beqs x y
 |_,_=>false
end
abbrev TF:=P16 (P16 AV)
structure PF where
 g:TF->AV
 s:AV->TF->TF
def RV(x y:Dg):PF:=⟨λt=>y.g _ (x.g _ t),λv t=>x.s _ (y.s _ v (x.g _ t)) t⟩
def e29:PF:=⟨λ_=> .undef,λ_ t=>t⟩
def Dl(n:Nat):PF:=bif Nat.blt n 256 then RV (sO (n/16)) (sO (n % 16))else e29
def TF.get(t:TF)(n:Nat):AV:=(Dl n).g t
def TF.set(t:TF)(n:Nat)(v:AV):TF:=(Dl n).s v t
def e30:P16 AV:=P16.const .undef
def TF.empty:TF:=P16.const e30
inductive ADef where
 |coll (b:Nat)
 |fn (f:FuncId) (cap args:List AV)
structure Ent where
 key:AV
 val:AV
 born:Nat
def iD:Nat:=4294967295
inductive Blk where
 |cells (elem fz:Nat) (cs:List AV)
 |arr (elem:Nat) (sig:List CT) (l:SX)
 |map (es:List Ent) (clock:Nat)
 |marr (d:Bool) (ks vs:List CT) (l:SX)
 |bag (elem:Nat) (sig:List CT) (l:SX)
 |mrg (it:Nat) (d:Bool) (ks vs:List CT) (l:SX)
 |mit (m:Nat)
 |vec (cs:List AV)
 |strIter (s:List UInt8) (pos:Nat)
 |mapIter (m:Option Nat) (since:Nat) (seen:List Nat) (stepped:Nat)
 |loop (st:LoopState) (pending:Option Code) (fn:FuncId) (tm:TF) (nt:Nat) (params:Array Tmp) (assign body:Code) (defers:Nat)
 |defd (taken:Bool)
abbrev TH:=P16 (P16 (P16 (P16 (Option Blk))))
structure PH where
 g:TH->Option Blk
 s:Option Blk->TH->TH
def Rh(x y z u:Dg):PH:=⟨λt=>u.g _ (z.g _ (y.g _ (x.g _ t))),
 λv t=>x.s _ (y.s _ (z.s _ (u.s _ v (z.g _ (y.g _ (x.g _ t)))) (y.g _ (x.g _ t))) (x.g _ t)) t⟩
def Iu:PH:=⟨λ_=>none,λ_ t=>t⟩
def tW(n:Nat):PH:=bif !(Nat.blt n 65536)then Iu else Rh (sO (n/4096)) (sO (n/256 % 16)) (sO (n/16 % 16)) (sO (n % 16))
structure Heap where
 t:TH
 next:Nat
 wm:Nat
def Zk:P16 (Option Blk):=P16.const none
def Ks:P16 (P16 (Option Blk)):=P16.const Zk
def HK:P16 (P16 (P16 (Option Blk))):=P16.const Ks
def eD(b:Nat)(t:TH)(_ _:Nat):Option Blk:=(tW b).g t
def e98(b:Nat)(x:Option Blk)(t:TH)(next wm:Nat):Heap:=⟨(tW b).s x t,next,wm⟩
def iY(x:Blk)(t:TH)(next wm:Nat):Heap:=⟨(tW next).s (some x) t,next+1,wm⟩
def Heap.get(h:Heap)(b:Nat):Option Blk:=Heap.rec (eD b) h
def Heap.put(h:Heap)(b:Nat)(x:Option Blk):Heap:=Heap.rec (e98 b x) h
def Heap.new(h:Heap)(x:Blk):Heap:=Heap.rec (iY x) h
def Heap.empty:Heap:=⟨P16.const HK,0,0⟩
def ej(P:Program)(t:TypeId):Option Nat:=(P.info? t).map (·.size)
def EM(P:Program)(t:TypeId):Option Bool:=(P.underlying t).map λ
 | .struct _| .array _ _=>true
 |_=>false
def xu:Value->Option AV
 | .bool b=>some (.bool b)
 | .int k n=>some (.int k n)
 | .string s=>some (.str s.data.toList)
 | .pointer none=>some .nilp
 | .slice none 0 0=>some .nils
 | .map none=>some .nilm
 | .nilFunc=>some .nilf
 | .nilIface=>some .nili
 |_=>none
def yI:Value->Option AV
 | .agg cs=>(cs.toList.mapM xu).map .agg
 | .tuple vs=>match vs.toList with
   | []=>some .undef
   |_=>none
 |v=>xu v
def il(P:Program)(t:TypeId):Option AV:=((P.info? t).bind (·.zero)).bind yI
def AV.cells:AV->List AV
 | .agg cs=>cs
 |v=>[v]
def AV.nt:AV->Bool
 | .tup _=>false
 | .any=>false
 |_=>true
def AV.one:AV->Bool
 | .agg _| .tup _| .any=>false
 |_=>true
def AV.oneA:AV->Bool
 | .agg _| .tup _=>false
 |_=>true
def iv:Int->Int->Bool
 | .ofNat a,.ofNat b=>Nat.blt a b
 | .negSucc _,.ofNat _=>true
 | .ofNat _,.negSucc _=>false
 | .negSucc a,.negSucc b=>Nat.blt b a
def mV:Int->Int->Bool
 | .ofNat a,.ofNat b=>Nat.beq a b
 | .negSucc a,.negSucc b=>Nat.beq a b
 |_,_=>false
def IU:IntKind->Nat
 | .i8=>128| .i16=>32768| .i32=>2147483648| .i64=>9223372036854775808
 | .u8=>256| .u16=>65536| .u32=>4294967296| .u64=>18446744073709551616
def oe(k:IntKind)(n:Int):Int:=match n with
 | .ofNat m=>bif Nat.blt m (IU k)then .ofNat m else k.wrap (.ofNat m)
 | .negSucc m=>k.wrap (.negSucc m)
def kR:Int->Option Nat
 | .ofNat n=>some n
 | .negSucc _=>none
def uc(op:BinOp)(k:IntKind)(x y:Int):Option AV:=
 match op with
 | .add=>some (.int k (oe k (x+y)))
 | .sub=>some (.int k (oe k (x-y)))
 | .mul=>some (.int k (oe k (x*y)))
 | .quo=>bif mV y 0 then none else some (.int k (oe k (x.tdiv y)))
 | .rem=>bif mV y 0 then none else some (.int k (x.tmod y))
 | .and=>some (.int k (oe k ((BitVec.ofInt k.bits x&&&BitVec.ofInt k.bits y).toNat)))
 | .or=>some (.int k (oe k ((BitVec.ofInt k.bits x|||BitVec.ofInt k.bits y).toNat)))
 | .xor=>some (.int k (oe k ((BitVec.ofInt k.bits x^^^BitVec.ofInt k.bits y).toNat)))
 | .andNot=>some (.int k (oe k ((BitVec.ofInt k.bits x&&& ~~~(BitVec.ofInt k.bits y)).toNat)))
 | .eql=>some (.bool (mV x y))
 | .neq=>some (.bool (!mV x y))
 | .lss=>some (.bool (iv x y))
 | .leq=>some (.bool (!iv y x))
 | .gtr=>some (.bool (iv y x))
 | .geq=>some (.bool (!iv x y))
 |_=>none
def ME(op:BinOp)(k:IntKind)(x y:Int):Option AV:=
 match kR y with
 |none=>none
 |some y=>
  let n:=min y k.bits
  match op with
  | .shl=>some (.int k (oe k (x*2^n)))
  | .shr=>some (.int k (match x with| .ofNat m=> .ofNat (m/2^n)| .negSucc m=>(Int.negSucc m).fdiv (2^n)))
  |_=>none
def e99(a:UInt8)(ih:List UInt8->Bool)(y:List UInt8):Bool:=match y with
 | []=>false
 |b::y=>bif Nat.beq a.toNat b.toNat then ih y else false
def xN(x:List UInt8):List UInt8->Bool:=List.rec (motive:=λ_=>List UInt8->Bool) List.isEmpty (λa _=>e99 a) x
def ltN(y:List UInt8):Bool:=match y with
 | []=>false
 |_::_=>true
def ltS(a:UInt8)(ih:List UInt8->Bool)(y:List UInt8):Bool:=match y with
 | []=>false
 |b::y=>bif Nat.blt a.toNat b.toNat then true else bif Nat.beq a.toNat b.toNat then ih y else false
def gC(x:List UInt8):List UInt8->Bool:=List.rec (motive:=λ_=>List UInt8->Bool) ltN (λa _=>ltS a) x
def EO:Nat:=4294967296
def Ci(op:BinOp)(x y:List UInt8):Option AV:=
 match op with
 | .add=>bif Nat.blt (x.length+y.length) EO then some (.str (x++y))else none
 | .eql=>some (.bool (xN x y))
 | .neq=>some (.bool (!xN x y))
 | .lss=>some (.bool (gC x y))
 | .leq=>some (.bool (!gC y x))
 | .gtr=>some (.bool (gC y x))
 | .geq=>some (.bool (!gC x y))
 |_=>none
def Gu:AV->Option Bool
 | .nils=>some true
 | .sl _ _ _ _=>some false
 | .us _ _ _ _=>some false
 | .es _ _ _=>some false
 | .es0=>some false
 |_=>none
def IV:AV->Option Bool
 | .nilm=>some true
 | .map _=>some false
 |_=>none
def Is:AV->Option Bool
 | .nilf=>some true
 | .func _ _ _=>some false
 | .yield _=>some false
 |_=>none
def jV(P:Program)(t:TypeId)(cs:List AV)(off:Nat):Option AV:=
 match EM P t,ej P t with
 |some true,some n=>bif Nat.ble (off+n) cs.length then some (.agg ((cs.drop off).take n))else none
 |some false,some _=>cs[off]?
 |_,_=>none
def uy(P:Program)(ih:TypeId->AV->AV->Option Bool)(xs ys:List AV):List Field->Option Bool
 | []=>some true
 |f::r=>bif f.name== "_" then uy P ih xs ys r else match jV P f.type xs f.offset,jV P f.type ys f.offset with
  |some a,some b=>match ih f.type a b with
   |some true=>uy P ih xs ys r
   |x=>x
  |_,_=>none
def DK(P:Program)(ih:TypeId->AV->AV->Option Bool)(e n:Nat)(xs ys:List AV):Nat->Nat->Option Bool
 |0,_=>some true
 |k+1,i=>match jV P e xs (i*n),jV P e ys (i*n)with
  |some a,some b=>match ih e a b with
   |some true=>DK P ih e n xs ys k (i+1)
   |x=>x
  |_,_=>none
def dt9(P:Program)(e a o b o':Nat):Option Bool:=match ej P e with
 |some (_+1)=>bif Nat.beq a b then some (Nat.beq o o')else none
 |_=>none
def kJ(P:Program)(ih:TypeId->AV->AV->Option Bool)(t:TypeId)(x y:AV):Option Bool:=
 match P.underlying t with
 |some .bool=>match x,y with
  | .bool a,.bool b=>some (a==b)
  |_,_=>none
 |some (.int _)=>match x,y with
  | .int k a,.int k' b=>if k=k' then some (mV a b)else none
  | .oint k a,.oint k' b=>if k=k' then(bif SX.beq a b then some true else none)else none
  |_,_=>none
 |some .string=>match x,y with
  | .str a,.str b=>some (xN a b)
  | .ostr a,.ostr b=>bif SX.beq a b then some true else none
  |_,_=>none
 |some (.pointer e)=>match x,y with
  | .nilp,.nilp=>some true
  | .nilp,.ptr _ _=>some false
  | .ptr _ _,.nilp=>some false
  | .ptr a o,.ptr b o'=>dt9 P e a o b o'
  |_,_=>none
 |some (.interface _)=>match x,y with
  | .nili,.nili=>some true
  | .nili,.iface _ _=>some false
  | .iface _ _,.nili=>some false
  | .iface tx vx,.iface ty vy=>bif Nat.beq tx ty then(match P.info? tx with
   |some i=>bif i.comparable then ih tx vx vy else none
   |none=>none)
   else some false
  |_,_=>none
 |some (.slice _)=>match x,y with
  | .nils,b=>Gu b
  |a,.nils=>Gu a
  |_,_=>none
 |some (.map _ _)=>match x,y with
  | .nilm,b=>IV b
  |a,.nilm=>IV a
  |_,_=>none
 |some (.func _ _ _)=>match x,y with
  | .nilf,b=>Is b
  |a,.nilf=>Is a
  |_,_=>none
 |some (.struct fields)=>match x,y with
  | .agg xs,.agg ys=>bif P.stoodInHeld t then none else uy P ih xs ys fields.toList
  |_,_=>none
 |some (.array len elem)=>match x,y with
  | .agg xs,.agg ys=>match ej P elem with
    |none=>none
    |some n=>DK P ih elem n xs ys len 0
  |_,_=>none
 |_=>none
def ea0(_:TypeId)(_ _:AV):Option Bool:=none
def jL(P:Program)(n:Nat):TypeId->AV->AV->Option Bool:=Nat.rec (motive:=λ_=>TypeId->AV->AV->Option Bool) ea0 (λ_=>kJ P) n
def vO:Operand->Bool
 | .const _=>true
 |_=>false
def Sq(P:Program)(t:TypeId)(x y:Operand)(a b:AV):Bool:=
 match a with
 | .nili=>vO x||vO y||(match b with
   | .nili=>false
   | .opq _=>false
   | .any=>false
   |_=>true)
 | .any=>false
 | .agg _=> !(P.eqGuardType P.depth t)
 | .opq _=>false
 |_=>true
def wX(P:Program)(op:BinOp)(t:TypeId)(x y:Operand)(a b:AV):Bool:=
 match op with
 | .eql| .neq=>Sq P t x y a b
 |_=>true
def e31(op:BinOp)(k k':IntKind)(a b:Int):Option AV:=match op with
 | .shl=>ME .shl k a b
 | .shr=>ME .shr k a b
 |op=>if k=k' then uc op k a b else none
def tw(P:Program)(op:BinOp)(t:TypeId)(x y:AV):Option AV:=match op with
 | .eql=>(jL P 10000 t x y).map .bool
 | .neq=>(jL P 10000 t x y).map λb=> .bool (!b)
 |_=>none
def NW(op:BinOp)(k:IntKind)(a:Int)(n:Nat):Option AV:=match op,k with
 | .gtr,.i64=>bif iv (.ofNat n) a then none else some (.bool false)
 |_,_=>none
def Qp(P:Program)(op:BinOp)(t:TypeId)(x y:AV):Option AV:=
 match x with
 | .int k a=>match y with
   | .int k' b=>e31 op k k' a b
   | .atl n=>NW op k a n
   |_=>none
 | .str a=>match y with
   | .str b=>Ci op a b
   |_=>none
 |x=>tw P op t x y
def Kw(op:UnOp)(x:AV):Option AV:=
 match op,x with
 | .neg,.int k n=>some (.int k (oe k (0-n)))
 | .xor,.int k n=>uc .xor k (if k.signed then-1 else k.max) n
 | .not,.bool b=>some (.bool !b)
 |_,_=>none
def Gc(P:Program)(t:TypeId)(a:AV)(h:Heap):Option AV:=
 match a with
 | .ptr b o=>match h.get b with
   |some (.cells _ _ cs)=>jV P t cs o
   |_=>none
 |_=>none
def jO(cs:List AV)(o:Nat)(vs:List AV):List AV:=cs.take o++vs++cs.drop (o+vs.length)
def putCells(h:Heap)(b o:Nat)(vs:List AV):Option Heap:=
 match vs with
 | []=>some h
 |vs=>match h.get b with
  |some (.cells e fz cs)=>
   bif Nat.ble h.wm b&&Nat.ble fz o&&Nat.ble (o+vs.length) cs.length&&vs.all AV.one then some (h.put b (some (.cells e fz (jO cs o vs))))else none
  |_=>none
def Ef(P:Program)(t:TypeId)(a v:AV)(h:Heap):Option Heap:=
 match a,ej P t with
 | .ptr b o,some n=>bif v.nt&&Nat.beq v.cells.length n then putCells h b o v.cells else none
 |_,_=>none
def ET(t:TypeId)(v:AV)(h:Heap):Option (AV×Heap):=
 bif v.cells.all AV.one then some (.ptr h.next 0,h.new (.cells t 0 v.cells))else none
def xT(place:Nat->Option (Nat×Nat))(cells:List AV):List (Nat×AV)->Option (List AV)
 | []=>some cells
 |(i,v)::rest=>
  match place i with
  |none=>none
  |some (off,size)=>bif v.nt&&(Nat.beq v.cells.length size&&Nat.ble (off+v.cells.length) cells.length)then xT place (jO cells off v.cells) rest else none
def Rx(P:Program)(t:TypeId)(parts:List (Nat×AV)):Option AV:=
 match il P t,P.underlying t with
 |some z,some (.struct fields)=>(xT (λi=>(fields[i]?).bind λf=>(ej P f.type).map λs=>(f.offset,s)) z.cells parts).bind λcs=>
  bif fields.all (λf=>(ej P f.type).isSome)&&z.nt then some (.agg cs)else none
 |some z,some (.array _ elem)=>match ej P elem with
  |some s=>bif z.nt then(xT (λi=>some (i*s,s)) z.cells parts).map .agg else none
  |none=>none
 |_,_=>none
def dF:Nat->List AV->List AV
 |0,_=>[]
 |n+1,l=>l++dF n l
def xg(P:Program)(t:TypeId)(len:Nat)(parts:List (Nat×AV))(h:Heap):Option (AV×Heap):=
 match P.underlying t with
 |some (.slice elem)=>match ej P elem,il P elem with
  |some s,some z=>bif Nat.beq z.cells.length s&&Nat.blt 0 s&&Nat.ble (len*s) 1000000 then
   match xT (λi=>some (i*s,s)) (dF len z.cells) parts with
   |some cs=>bif cs.all AV.one then some (.sl h.next 0 len len,h.new (.cells elem 0 cs))else none
   |none=>none
   else none
  |_,_=>none
 |_=>none
def xD(P:Program)(t:TypeId)(l c:AV)(h:Heap):Option (AV×Heap):=
 match P.underlying t,l,c with
 |some (.slice elem),.int _ l,.int _ c=>match kR l,kR c,ej P elem,il P elem,P.info? elem with
  |some l,some c,some s,some z,some i=>
   bif Nat.ble l c&&Nat.ble c 1000000&&Nat.ble i.bytes 1000&&Nat.beq z.cells.length s&&Nat.blt 0 s&&z.cells.all AV.one then some (.sl h.next 0 l c,h.new (.cells elem 0 (dF c z.cells)))else none
  |_,_,_,_,_=>none
 |_,_,_=>none
def Lg(P:Program)(s:TypeId)(a:AV)(f:Nat):Option AV:=
 match P.underlying s,a with
 |some (.struct fields),.ptr b o=>match fields[f]? with
  |some f=>match ej P f.type with
   |some (_+1)=>some (.ptr b (o+f.offset))
   |_=>none
  |none=>none
 |_,_=>none
def MW(P:Program)(t:TypeId)(x:AV)(f:Nat):Option AV:=
 match P.underlying t,x with
 |some (.struct fields),.agg cs=>(fields[f]?).bind λf=>jV P f.type cs f.offset
 |_,_=>none
def OM(P:Program)(t:TypeId)(x i:AV):Option AV:=
 match i with
 | .int _ i=>match kR i,P.underlying t,x with
   |some i,some (.array len elem),.ptr b o=>match ej P elem with
    |some s=>bif Nat.blt i len then some (.ptr b (o+i*s))else none
    |none=>none
   |some i,some (.slice elem),.sl b o len _=>match ej P elem with
    |some s=>bif Nat.blt i len then some (.ptr b (o+i*s))else none
    |none=>none
   |some i,some (.slice elem),.us b o len _=>match ej P elem with
    |some s=>bif Nat.blt i len then some (.ptr b (o+i*s))else none
    |none=>none
   |_,_,_=>none
 |_=>none
def Uy(P:Program)(t:TypeId)(x i:AV):Option AV:=
 match i with
 | .int _ i=>match kR i,P.underlying t,x with
   |some i,some (.array len elem),.agg cs=>match ej P elem with
    |some s=>bif Nat.blt i len then jV P elem cs (i*s)else none
    |none=>none
   |some i,some .string,.str s=>(s[i]?).map λb=> .int .u8 b.toNat
   |_,_,_=>none
 |_=>none
def eO(x:Option AV)(d:Nat):Option Nat:=
 match x with
 |none=>some d
 |some (.int _ i)=>kR i
 |some _=>none
def OV(P:Program)(t:TypeId)(x:AV)(lo hi mx:Option AV)(h:Heap):Option AV:=
 match P.underlying t,x with
 |some .string,.str s=>match eO lo 0,eO hi s.length,mx with
  |some l,some e,none=>bif Nat.ble l e&&Nat.ble e s.length then some (.str ((s.drop l).take (e-l)))else none
  |_,_,_=>none
 |some (.slice elem),.nils=>match eO lo 0,eO hi 0,eO mx 0,ej P elem with
  |some 0,some 0,some 0,some _=>some .nils
  |_,_,_,_=>none
 |some (.slice elem),.es b o sz=>match eO lo 0,eO hi 0,mx,ej P elem with
  |some 0,some 0,none,some _=>some (.es b o sz)
  |some 0,some 0,some m,some _=>match eO (some m) 0 with
   |some 0=>some .es0
   |_=>none
  |_,_,_,_=>none
 |some (.slice elem),.es0=>match eO lo 0,eO hi 0,eO mx 0,ej P elem with
  |some 0,some 0,some 0,some _=>some .es0
  |_,_,_,_=>none
 |some (.slice elem),.sl b o len cap=>match eO lo 0,eO hi len,eO mx cap,ej P elem with
  |some l,some e,some m,some s=>bif Nat.ble l e&&Nat.ble e m&&Nat.ble m cap then some (.sl b (bif Nat.beq m l then o else o+l*s) (e-l) (m-l))else none
  |_,_,_,_=>none
 |some (.slice elem),.us b o len sz=>match eO lo 0,eO hi len,ej P elem,h.get b with
  |some l,some e,some s,some (.cells _ _ cs)=>bif Nat.beq s sz&&Nat.ble l e&&Nat.blt 0 s&&Nat.ble (o+e*s) cs.length then
   (match mx with
   |none=>bif Nat.blt (o+l*s) cs.length||Nat.beq l 0 then some (.us b (o+l*s) (e-l) sz)else some (.es b (o+l*s) sz)
   |some m=>match eO (some m) 0 with
    |some m=>bif Nat.ble e m&&Nat.ble (o+m*s) cs.length then some (.sl b (bif Nat.beq m l then o else o+l*s) (e-l) (m-l))else none
    |none=>none)
   else none
  |_,_,_,_=>none
 |some (.array n elem),.ptr b o=>match eO lo 0,eO hi n,eO mx n,ej P elem with
  |some l,some e,some m,some s=>bif Nat.ble l e&&Nat.ble e m&&Nat.ble m n then some (.sl b (bif Nat.beq m l then o else o+l*s) (e-l) (m-l))else none
  |_,_,_,_=>none
 |_,_=>none
def pK(s n:Nat)(x:AV)(h:Heap):Option (List AV):=
 match x with
 | .nils=>bif Nat.beq n 0 then some []else none
 | .es _ _ _| .es0=>bif Nat.beq n 0 then some []else none
 | .str l=>some ((l.take n).map λb=> .int .u8 b.toNat)
 | .sl b o _ _| .us b o _ _=>match h.get b with
   |some (.cells _ _ cs)=>bif Nat.ble (o+n*s) cs.length&&((cs.drop o).take (n*s)).all AV.one then some ((cs.drop o).take (n*s))else none
   |_=>none
 |_=>none
def gB:AV->Option Nat
 | .nils| .es _ _ _| .es0=>some 0
 | .str l=>some l.length
 | .sl _ _ n _| .us _ _ n _=>some n
 |_=>none
def room:Nat:=1000000
def lX(s:Nat)(y:AV)(h:Heap):Option (Nat×List AV):=
 match gB y with
 |some n=>(pK s n y h).bind λl=>bif Nat.beq l.length (n*s)then some (n,l)else none
 |none=>none
def ZD(z:List AV)(y:AV):Option (Nat×List AV):=
 match y with
 | .int _ m=>match kR m with
   |some n=>bif Nat.ble n room&&z.all AV.one&&Nat.blt 0 z.length then some (n,dF n z)else none
   |none=>none
 |_=>none
def Oq(P:Program)(yt:TypeId)(s:Nat)(z:List AV)(y:AV)(h:Heap):Option (Nat×List AV):=
 match P.underlying yt with
 |some (.slice _)=>lX s y h
 |some .string=>lX s y h
 |some (.int _)=>ZD z y
 |_=>none
def QZ(elem s:Nat)(x:AV)(n:Nat)(new:List AV)(h:Heap):Option (AV×Heap):=
 match x with
 | .nils=>some (.us h.next 0 n s,h.new (.cells elem 0 new))
 | .es0=>some (.us h.next 0 n s,h.new (.cells elem 0 new))
 | .sl b o len cap=>
   bif Nat.ble (len+n) cap then(putCells h b (o+len*s) new).map λh'=>(.sl b o (len+n) cap,h')
   else(pK s len x h).bind λold=>bif Nat.beq old.length (len*s)then some (.us h.next 0 (len+n) s,h.new (.cells elem 0 (old++new)))else none
 | .us b o len sz=>bif !(Nat.beq s sz)then none else match h.get b with
   |some (.cells e fz cs)=>
    bif Nat.ble (o+(len+n)*s) cs.length then(putCells h b (o+len*s) new).map λh'=>(.us b o (len+n) s,h')
    else bif Nat.ble h.wm b&&Nat.ble fz (o+len*s)&&Nat.ble (o+len*s) cs.length&&Nat.beq e elem then
     some (.us h.next 0 (len+n) s,(h.put b none).new (.cells e (fz-o) ((cs.drop o).take (len*s)++new)))
    else none
   |_=>none
 | .es b o sz=>bif !(Nat.beq s sz)then none else match h.get b with
   |some (.cells e fz cs)=>
    bif Nat.ble h.wm b&&Nat.ble fz o&&Nat.beq e elem then some (.us h.next 0 n s,(h.put b none).new (.cells e 0 new))else none
   |_=>none
 |_=>none
def HS(s:Nat)(x:AV)(h:Heap):Bool:=
 match x with
 | .nils=>true
 | .es _ _ _=>true
 | .es0=>true
 | .sl _ _ l c=>Nat.ble l c
 | .us b o l sz=>Nat.beq s sz&&(match h.get b with
   |some (.cells _ _ cs)=>Nat.ble (o+l*s) cs.length
   |_=>false)
 |_=>false
def fC(P:Program)(t:TypeId):Bool:=match P.underlying t with
 |some (.struct fs)=>match fs[0]? with
  |some f=>match P.underlying f.type with
   |some (.pointer u)=>Nat.beq u t
   |_=>false
  |none=>false
 |_=>false
def QI(P:Program)(argTypes:Array TypeId)(x y:AV)(h:Heap):Option (AV×Heap):=
 match(argTypes[0]?).bind P.underlying,argTypes[1]? with
 |some (.slice elem),some yt=>match gB x,P.info? elem,il P elem with
  |some lx,some i,some z=>
   match Oq P yt i.size z.cells y h with
   |none=>none
   |some (n,new)=>
    bif Nat.blt 0 i.size&&Nat.beq z.cells.length i.size&&Nat.ble (lx+n) room&&Nat.ble i.bytes 1000&&Nat.beq argTypes.size 2&& !(fC P elem)then
     (bif Nat.beq n 0 then(bif HS i.size x h then some (x,h)else none)else QZ elem i.size x n new h)
    else none
  |_,_,_=>none
 |_,_=>none
def cX0(x:AV)(n:Nat)(new:List AV)(h:Heap):Option (AV×Heap):=
 match x with
 | .nils=>some (.int .i64 n,h)
 | .es _ _ _=>some (.int .i64 n,h)
 | .es0=>some (.int .i64 n,h)
 | .sl b o _ _=>(putCells h b o new).map λh'=>(.int .i64 n,h')
 | .us b o _ _=>(putCells h b o new).map λh'=>(.int .i64 n,h')
 |_=>none
def TO(P:Program)(argTypes:Array TypeId)(x y:AV)(h:Heap):Option (AV×Heap):=
 match(argTypes[0]?).bind P.underlying with
 |some (.slice elem)=>match ej P elem,gB x,gB y with
  |some s,some lx,some ly=>(pK s (Nat.min ly lx) y h).bind λnew=>cX0 x (Nat.min ly lx) new h
  |_,_,_=>none
 |_=>none
def Hu:AV->AV->Bool
 | .bool a,.bool b=>a==b
 | .int k a,.int k' b=>(k==k')&&mV a b
 | .str a,.str b=>xN a b
 |_,_=>false
def QP:List AV->List AV->Bool
 | [],[]=>true
 |a::x,b::y=>Hu a b&&QP x y
 |_,_=>false
def Ga:AV->AV->Bool
 | .agg xs,.agg ys=>QP xs ys
 |x,y=>Hu x y
end
noncomputable section
inductive Ext where
 |ident|count|indexByte|mapsClone|makeNoZero (t:TypeId)|overlaps (t r:TypeId)
inductive FK where
 |bin (op:BinOp)|un (op:UnOp)|conv (d:TypeId)|len|max|min|slc
 deriving DecidableEq
structure LHd where
 id:Nat
 s0:List SX
 v0:Nat
 fv:List SX
inductive VT where
 |bad
 |ite (e:SX) (a b:VT)
 |need (e:SX) (x:VT)
 |ret (i:Nat) (out:List SX)
 |loop (hd:LHd) (body:VT) (ks:List VT)
 |both (a b:VT)
 |mloop (hd:LHd) (l:SX) (body:VT) (ks:List VT)
 deriving Inhabited
inductive Ex where
 |norm|exit (id:Nat)|ret
structure StP where
 slots:List (Nat×AV)
 blks:List (Nat×Option Blk)
 next:Nat
structure OwnP where
 slot:Nat
 blk:Nat
 elem:Nat
 sig:List CT
 cell:Option (Nat×Nat)
 lz:Bool
structure LSpec where
 id:Nat
 owns:List OwnP
 v0:Nat
 fv:List SX
 dead:List Nat
 head:StP
 exits:List (Ex×StP)
 mapr:Bool:=false
structure Fr where
 tm:TF
 nt:Nat
 pc:List (SX×Bool)
 fn:FuncId
 ds:List ADef
 ro:Option Nat
def Fr.slot(a:Fr)(t:Nat):AV:=(Dl t).g a.tm
def pW(d:Nat)(v:AV)(tm:TF)(nt:Nat)(pc:List (SX×Bool))(fn:FuncId)(ds:List ADef)(ro:Option Nat):Fr:=bif Nat.blt d nt then⟨tm.set d v,nt,pc,fn,ds,ro⟩else⟨tm,nt,pc,fn,ds,ro⟩
def dO6(p:SX×Bool)(tm:TF)(nt:Nat)(pc:List (SX×Bool))(fn:FuncId)(ds:List ADef)(ro:Option Nat):Fr:=⟨tm,nt,p::pc,fn,ds,ro⟩
def du0(tm:TF)(nt:Nat)(pc:List (SX×Bool))(fn:FuncId)(ds:List ADef)(ro:Option Nat):Fr:=⟨tm,nt,[],fn,ds,ro⟩
def dO7(x:Option Nat)(tm:TF)(nt:Nat)(pc:List (SX×Bool))(fn:FuncId)(ds:List ADef)(ro:Option Nat):Fr:=⟨tm,nt,pc,fn,ds,x⟩
def Fr.back(a:Fr)(x:Option Nat):Fr:=Fr.rec (dO7 x) a
def dO8(m:List ADef)(tm:TF)(nt:Nat)(pc:List (SX×Bool))(fn:FuncId)(ds:List ADef)(ro:Option Nat):Fr:=⟨tm,nt,pc,fn,m++ds,ro⟩
def Fr.mark(a:Fr)(m:List ADef):Fr:=Fr.rec (dO8 m) a
def Fr.clear(a:Fr):Fr:=Fr.rec du0 a
def Fr.cond(a:Fr)(p:SX×Bool):Fr:=Fr.rec (dO6 p) a
def cd6(p:Prim)(l:List SX)(d:Int):Option Bool:=match p,l with
 | .imin,[_,.ci c]=>bif iv c d then some true else none
 |_,_=>none
def ZQ(p:Prim)(l:List SX):Option Bool:=match p,l with
 | .cmp .lss,[.op q x,.ci d]=>cd6 q x d
 |_,_=>none
def LO(e:SX):Option Bool:=match e with
 | .op p l=>ZQ p l
 |_=>none
def xO(e:SX):List (SX×Bool)->Option Bool
 | []=>LO e
 |p::r=>bif SX.beq e p.1 then some p.2 else xO e r
def Fr.put(a:Fr)(dst:Option Tmp)(v:AV):Fr:=
 match dst with
 |none=>a
 |some d=>Fr.rec (pW d v) a
def Fr.ev(a:Fr):Operand->Option AV
 | .tmp t=>some (a.slot t)
 | .const v=>yI v
 | .global g=>some (.glob g)
 | .func f=>some (.func (.func f) [] [])
inductive Res where
 |val (v:AV) (h:Heap)
 |need (e:SX) (v:AV) (h:Heap)
 |cho (e:SX) (v:AV) (l:List AV) (h:Heap)
 |enter (f:FuncId) (args:List AV)
 |choice (l:List (AV×Heap))
 |yield (l:Nat) (args:List AV)
 |defer (d:ADef)
 |bad
structure Env where
 P:Program
 ext:FuncId->Option Ext
 amb:FuncId->Bool
 caps:FuncId->Bool
 hook:FuncId->List AV->Heap->Res
 fact:FK->List AV->Option AV
 lspec:FuncId->Nat->Fr->Heap->Option LSpec
def evs(ρ:Operand->Option AV):List Operand->Option (List AV)
 | []=>some []
 |x::r=>match ρ x,evs ρ r with
  |some v,some vs=>some (v::vs)
  |_,_=>none
def iR(ρ:Operand->Option AV):List (Nat×Operand)->Option (List (Nat×AV))
 | []=>some []
 |(i,x)::r=>match ρ x,iR ρ r with
  |some v,some vs=>some ((i,v)::vs)
  |_,_=>none
def eI(ρ:Operand->Option AV):Option Operand->Option (Option AV)
 |none=>some none
 |some x=>(ρ x).map some
def ov(x:Option AV)(h:Heap):Res:=match x with
 |some v=> .val v h
 |none=> .bad
def oh(x:Option (AV×Heap)):Res:=match x with
 |some (v,h)=> .val v h
 |none=> .bad
def os(x:Option Heap):Res:=match x with
 |some h=> .val .undef h
 |none=> .bad
def yV(P:Program)(t:TypeId):Bool:=match P.underlying t with
 |some .bool=>true
 |some (.int _)=>true
 |some .string=>true
 |_=>false
def pi(P:Program)(t:TypeId)(k:AV):Bool:=
 match P.underlying t,k with
 |some .bool,.bool _=>true
 |some (.int _),.int _ _=>true
 |some .string,.str _=>true
 |some (.struct fields),.agg cs=>fields.all λf=>(jV P f.type cs f.offset).isSome&&yV P f.type
 |_,_=>false
def lj(P:Program)(kt:TypeId)(k:AV):List Ent->Nat->Option (Option (Nat×Ent))
 | [],_=>some none
 |e::r,i=>match jL P 10000 kt k e.key with
  |some true=>some (some (i,e))
  |some false=>lj P kt k r (i+1)
  |none=>none
def uI:List Ent->Nat->Ent->List Ent
 | [],_,_=>[]
 |_::r,0,x=>x::r
 |e::r,i+1,x=>e::uI r i x
def Lq:List Ent->Nat->List Ent
 | [],_=>[]
 |_::r,0=>r
 |e::r,i+1=>e::Lq r i
def Oy(m:AV)(h:Heap):Option (List Ent):=
 match m with
 | .nilm=>some []
 | .map r=>match h.get r with
   |some (.map es _)=>some es
   |_=>none
 |_=>none
def MI(P:Program)(t:TypeId)(m k:AV)(ok:Bool)(h:Heap):Option AV:=
 match P.underlying t with
 |some (.map kt et)=>bif pi P kt k then
  match Oy m h with
  |none=>none
  |some es=>match lj P kt k es 0 with
   |none=>none
   |some (some (_,e))=>some (bif ok then .tup [e.val,.bool true]else e.val)
   |some none=>(il P et).map λz=>bif ok then .tup [z,.bool false]else z
  else none
 |_=>none
def By(P:Program)(t:TypeId)(m k v:AV)(h:Heap):Option Heap:=
 match P.underlying t,m with
 |some (.map kt _),.map r=>bif pi P kt k&&Nat.ble h.wm r then
  match h.get r with
  |some (.map es c)=>match lj P kt k es 0 with
   |none=>none
   |some (some (i,e))=>bif Ga e.key k then some (h.put r (some (.map (uI es i ⟨k,v,e.born⟩) c)))else none
   |some none=>some (h.put r (some (.map (es++[⟨k,v,c⟩]) (c+1))))
  |_=>none
  else none
 |_,_=>none
def LZ(P:Program)(t:TypeId)(m k:AV)(h:Heap):Option (AV×Heap):=
 match P.underlying t,m with
 |some (.map kt et),.map r=>bif pi P kt k&&Nat.ble h.wm r then
  match h.get r with
  |some (.map es c)=>match lj P kt k es 0 with
   |none=>none
   |some (some (i,e))=>bif Ga e.key k then some (.tup [e.val,.int .i64 e.born],h.put r (some (.map (uI es i ⟨k,e.val,e.born⟩) c)))else none
   |some none=>(il P et).map λz=>(.tup [z,.int .i64 c],h.put r (some (.map (es++[⟨k,z,c⟩]) (c+1))))
  |_=>none
  else none
 |_,_=>none
def Aq(b:Nat):List Ent->Nat->Option (Nat×Ent)
 | [],_=>none
 |e::r,i=>bif Nat.beq e.born b then some (i,e)else Aq b r (i+1)
def HQ(m s v:AV)(h:Heap):Option Heap:=
 match m,s with
 | .map r,.int _ s=>match h.get r,kR s with
   |some (.map es c),some b=>match Aq b es 0 with
    |some (i,e)=>bif Nat.ble h.wm r then some (h.put r (some (.map (uI es i ⟨e.key,v,e.born⟩) c)))else none
    |none=>none
   |_,_=>none
 |_,_=>none
def PZ(P:Program)(t:TypeId)(m k:AV)(h:Heap):Option Heap:=
 match P.underlying t,m with
 |some (.map kt _),.map r=>bif pi P kt k&&Nat.ble h.wm r then
  match h.get r with
  |some (.map es c)=>match lj P kt k es 0 with
   |none=>none
   |some (some (i,_))=>some (h.put r (some (.map (Lq es i) c)))
   |some none=>some (h.put r (some (.map es c)))
  |_=>none
  else none
 |_,_=>none
def Ll(P:Program)(t:TypeId)(x:AV)(h:Heap):Option (AV×Heap):=
 match P.underlying t,x with
 |some .string,.str l=>some (.ptr h.next 0,h.new (.strIter l 0))
 |some (.map _ _),.nilm=>some (.ptr h.next 0,h.new (.mapIter none 0 [] 0))
 |some (.map _ _),.map m=>match h.get m with
  |some (.map _ c)=>some (.ptr h.next 0,h.new (.mapIter (some m) c [] c))
  |some (.marr d ks vs l)=>some (.ptr h.next 0,(h.new (.mit m)).put m (some (.mrg h.next d ks vs l)))
  |_=>none
 |_,_=>none
def sN(es:List Ent)(seen:List Nat):List Ent:=es.filter λe=> !(seen.contains e.born)
def YD(r m since:Nat)(seen:List Nat)(c:Nat)(h:Heap)(left:List Ent):Res:=
 match left with
 | []=> .val (.tup [.bool false]) h
 |left=> .choice (left.map λe=>(.tup [.bool true,e.key,e.val],h.put r (some (.mapIter (some m) since (seen++[e.born]) c))))
def ZG(r:Nat)(h:Heap)(b:Option Blk):Res:= .bad
def EH(it:AV)(EX:Bool)(h:Heap):Res:=
 match it,EX with
 | .ptr r 0,true=>ZG r h (h.get r)
 | .ptr r 0,false=>match h.get r with
   |some (.mapIter none _ _ _)=> .val (.tup [.bool false]) h
   |some (.mapIter (some m) since seen last)=>match h.get m with
    |some (.map es c)=>
     bif Nat.ble h.wm r&& !(!seen.isEmpty&& !es.isEmpty&&es.all (λe=>Nat.ble last e.born))&& !((sN es seen).any (λe=>Nat.ble since e.born))then YD r m since seen c h (sN es seen)else .bad
    |_=> .bad
   |_=> .bad
 |_,_=> .bad
def Lb:List Nat->Option Nat
 | []=>none
 | [x]=>some x
 |_::r=>Lb r
def LA(it:AV)(h:Heap):Option AV:=
 match it with
 | .ptr r 0=>match h.get r with
   |some (.mapIter (some m) _ seen stepped)=>match Lb seen,h.get m with
    |some s,some (.map es c)=>bif Nat.beq c stepped then(Aq s es 0).map λx=> .tup [x.2.key,x.2.val]else none
    |_,_=>none
   |_=>none
 |_=>none
def Of(P:Program)(asserted:TypeId)(ok:Bool):Option AV:=bif ok then(il P asserted).map λz=> .tup [z,.bool false]else none
def Rv(ok:Bool)(v:AV):Option AV:=some (bif ok then .tup [v,.bool true]else v)
def Nb(P:Program)(x:AV)(asserted:TypeId)(ok:Bool):Option AV:=
 match P.underlying asserted with
 |some (.interface _)=>none
 |some _=>match x with
  | .nili=>Of P asserted ok
  | .iface t v=>bif Nat.beq t asserted then Rv ok v else Of P asserted ok
  |_=>none
 |none=>none
def wu:List AV->Option (List UInt8)
 | []=>some []
 | .int .u8 (.ofNat n)::r=>match wu r with
   |some l=>bif Nat.blt n 256 then some (UInt8.ofNat n::l)else none
   |none=>none
 |_=>none
def vR(P:Program)(e:TypeId):Bool:=match P.underlying e with
 |some (.int .u8)=>true
 |_=>false
def Wo(P:Program)(e:TypeId)(l:List UInt8)(h:Heap):Option (AV×Heap):=
 bif vR P e&&Nat.ble l.length room then some (.us h.next 0 l.length 1,h.new (.cells e 0 (l.map λb=> .int .u8 b.toNat)))else none
def cX2(P:Program)(e:TypeId)(x:AV)(h:Heap):Option (List UInt8):=bif vR P e then match x with
 | .nils=>some []
 | .es _ _ _=>some []
 | .es0=>some []
 | .sl b o n c=>(pK 1 n (.sl b o n c) h).bind wu
 | .us b o n s=>(pK 1 n (.us b o n s) h).bind wu
 |_=>none
 else none
def JW(P:Program)(t b o:Nat)(h:Heap):Option (AV×Heap):=match ej P t,h.get b with
 |some (_+1),some (.cells _ _ cs)=>bif Nat.blt o cs.length then some (.ptr b o,h)else none
 |_,_=>none
def MN(P:Program)(t b o:Nat)(h:Heap):Option (AV×Heap):=match o,ej P t,h.get b with
 |0,some (n+1),some (.cells e _ cs)=>bif Nat.beq e t&&Nat.ble (n+1) cs.length&&fC P t then some (.ptr b 0,h)else none
 |_,_,_=>none
def GF(P:Program)(s d:TypeId)(x:AV)(h:Heap):Option (AV×Heap):=match P.underlying s,P.underlying d,x with
 |some .string,some (.slice e),.str l=>Wo P e l h
 |_,_,_=>none
def CM(P:Program)(s d:TypeId)(x:AV)(h:Heap):Option (AV×Heap):=
 match P.underlying s,P.underlying d,x with
 |some _,some (.int k),.int _ n=>some (.int k (oe k n),h)
 |some _,some .string,.str l=>some (.str l,h)
 |some (.slice e),some .string,x=>(cX2 P e x h).map λl=>(.str l,h)
 |some (.pointer t),some .unsafePointer,.ptr b o=>JW P t b o h
 |some .unsafePointer,some (.pointer t),.ptr b o=>MN P t b o h
 |_,_,_=>none
def AQ(c:Nat):List UInt8->Nat
 | []=>0
 |x::r=>bif Nat.beq x.toNat c then AQ c r+1 else AQ c r
def BI(c:Nat):List UInt8->Nat->Option Nat
 | [],_=>none
 |x::r,i=>bif Nat.beq x.toNat c then some i else BI c r (i+1)
def JR(c:Nat)(l:List UInt8):Int:=match BI c l 0 with
 |some i=>(i:Int)
 |none=> -1
def Db(P:Program)(e:Ext)(args:List AV)(h:Heap):Option (AV×Heap):=
 match e,args with
 | .mapsClone,[.iface t (.map r)]=>match h.get r with
   |some (.map es c)=>some (.iface t (.map h.next),h.new (.map es c))
   |some (.marr d ks vs l)=>some (.iface t (.map h.next),h.new (.marr d ks vs l))
   |_=>none
 | .ident,[x]=>some (x,h)
 | .count,[.str l,.int .u8 c]=>(kR c).bind λc=>bif Nat.blt c 256 then some (.int .i64 (AQ c l:Nat),h)else none
 | .indexByte,[.str l,.int .u8 c]=>(kR c).bind λc=>bif Nat.blt c 256 then some (.int .i64 (JR c l),h)else none
 |_,_=>none
def EX:AV->Bool
 | .str _=>true
 |_=>false
def SD(P:Program)(t:Option TypeDesc)(x:AV)(h:Heap):Option Nat:=match t with
 |some .string=>match x with
  | .str l=>some l.length
  |_=>none
 |some (.slice _)=>bif EX x then none else gB x
 |some (.map _ _)=>match x with
  | .nilm=>some 0
  | .map r=>match h.get r with
    |some (.map es _)=>some es.length
    |_=>none
  |_=>none
 |_=>none
def AE(P:Program)(elem:TypeId)(b o n:Nat)(h:Heap):Option (AV×Heap):=match n with
 |0=>some (.undef,h)
 |n=>match il P elem with
  |some z=>bif Nat.blt 0 z.cells.length then(putCells h b o (dF n z.cells)).map λh'=>(.undef,h')else none
  |none=>none
def Nq(P:Program)(t:Option TypeDesc)(x:AV)(h:Heap):Option (AV×Heap):=match t with
 |some (.slice elem)=>match x with
  | .nils=>some (.undef,h)
  | .sl b o n _=>AE P elem b o n h
  | .us b o n _=>AE P elem b o n h
  |_=>none
 |some (.map _ _)=>match x with
  | .nilm=>some (.undef,h)
  | .map r=>match h.get r with
    |some (.map _ c)=>bif Nat.ble h.wm r then some (.undef,h.put r (some (.map [] c)))else none
    |_=>none
  |_=>none
 |_=>none
def QL(x:AV)(h:Heap):Option AV:=match x with
 | .nils=>some (.int .i64 0)
 | .es0=>some (.int .i64 0)
 | .sl _ _ _ c=>some (.int .i64 c)
 | .us b o _ sz=>match h.get b with
   |some (.cells _ _ cs)=>bif Nat.blt 0 sz&&Nat.ble o cs.length then some (.atl ((cs.length-o)/sz))else none
   |_=>none
 |_=>none
def Dn(P:Program)(b:Builtin)(argTypes:Array TypeId)(args:List AV)(h:Heap):Option (AV×Heap):=
 match b,args with
 | .len,[x]=>(SD P ((argTypes[0]?).bind P.underlying) x h).map λ(n:Nat)=>(AV.int .i64 (n:Int),h)
 | .append,[x,y]=>QI P argTypes x y h
 | .copy,[x,y]=>TO P argTypes x y h
 | .clear,[x]=>Nq P ((argTypes[0]?).bind P.underlying) x h
 | .delete,[m,k]=>match argTypes[0]? with
   |some t=>(PZ P t m k h).map λh'=>(.undef,h')
   |none=>none
 | .cap,[x]=>match(argTypes[0]?).bind P.underlying with
   |some (.slice _)=>(QL x h).map λv=>(v,h)
   |_=>none
 | .max,[.int k x,.int _ y]=>some (.int k (bif iv x y then y else x),h)
 | .min,[.int k x,.int _ y]=>some (.int k (bif iv y x then y else x),h)
 |_,_=>none
def CI(x:AV):Option (Nat×Nat):=match x with
 | .sl b o _ _=>some (b,o)
 | .us b o _ _=>some (b,o)
 |_=>none
def UY(a b:Option (Nat×Nat))(h:Heap):Bool:=match a,b with
 |some p,some q=> !(Nat.beq p.1 q.1)&&(match h.get p.1,h.get q.1 with
  |some (.cells _ fz cs),some (.cells _ _ _)=>Nat.ble fz p.2&&Nat.blt p.2 cs.length
  |_,_=>false)
 |_,_=>false
def BE(t:TypeId)(P:Program)(args:List AV)(h:Heap):Res:=match args with
 | [x,y]=>match P.underlying t with
   |some (.slice e)=>match ej P e with
    |some _=>bif UY (CI x) (CI y) h then .choice [(.bool false,h),(.bool true,h)]else .bad
    |none=> .bad
   |_=> .bad
 |_=> .bad
def e33(P:Program)(e:Ext)(args:List AV)(h:Heap):Res:=match e with
 | .overlaps t _=>BE t P args h
 |e=>oh (Db P e args h)
def LN(P:Program)(e:Ext)(args:List AV)(h:Heap):Res:= .bad
def orY(r s:Res):Res:=match r with
 | .bad=>s
 |r=>r
def BX(E:Env)(f:FuncId)(args:List AV)(h:Heap):Res:=
 match E.P.funcs[f]? with
 |none=> .bad
 |some fn=>match fn.body with
  |some _=> .enter f args
  |none=>match E.ext f with
   |some e=>orY (e33 E.P e args h) (LN E.P e args h)
   |none=> .bad
def IX(P:Program)(t:TypeId)(name:String):Option FuncId:=
 match P.info? t with
 |some i=>match i.methods.find? (·.name==name)with
  |some m=>match m.path.toList with
   | []=>match m.func,P.underlying t with
     |some (f,true),some (.pointer _)=>some f
     |some (_,_),some (.pointer _)=>none
     |some (f,false),some _=>some f
     |_,_=>none
   |_=>none
  |none=>none
 |none=>none
def Uz(E:Env)(name:String)(first args:List AV)(h:Heap):Res:= .bad
def Mh(E:Env)(f:AV)(args:List AV)(h:Heap):Res:=
 match f with
 | .func (.func f) first cap=>BX E f (first++args++cap) h
 | .func (.method name) first _=>Uz E name first args h
 | .yield l=> .yield l args
 |_=> .bad
def HJ(x:AV):Option AV:=
 match x with
 | .nilp| .nili| .nilf=>none
 | .opq _=>none
 | .any=>none
 | .func (.method _) _ _=>none
 |x=>some x
def KR(E:Env)(x:Option AV)(k:FK)(vs:List AV):Option AV:=match x with
 |some v=>some v
 |none=>E.fact k vs
def wO(ρ:Operand->Option AV)(a b:Operand)(h:Heap)(c:Option AV):Res:=match c with
 |some (.bool t)=>ov (bif t then ρ a else ρ b) h
 |_=> .bad
def uC(e:TypeId)(h:Heap)(v:Option AV):Res:=match v with
 |some z=>oh (ET e z h)
 |none=> .bad
def LU(P:Program)(t:TypeId)(h:Heap)(ps:Option (List (Nat×AV))):Res:=match ps with
 |some ps=>ov (Rx P t ps) h
 |none=> .bad
def AW(P:Program)(t n:Nat)(h:Heap)(ps:Option (List (Nat×AV))):Res:=match ps with
 |some ps=>oh (xg P t n ps h)
 |none=> .bad
def OH(P:Program)(t:TypeId)(h:Heap)(a:Option AV):Res:=match a with
 |some a=>ov (Gc P t a h) h
 |none=> .bad
def TB(P:Program)(t:TypeId)(h:Heap)(a v:Option AV):Res:=match a with
 |some a=>match v with
  |some v=>os (Ef P t a v h)
  |none=> .bad
 |none=> .bad
def Ik(P:Program)(h:Heap)(name:String)(first cap:List AV):Res:=match first with
 | .iface t v::rest=>match IX P t name with
   |some _=> .val (.func (.method name) (.iface t v::rest) cap) h
   |none=> .bad
 |_=> .bad
def Cs(P:Program)(h:Heap)(a:Option AV):Res:=match a with
 |some (.func (.method name) first cap)=>Ik P h name first cap
 |some a=>ov (HJ a) h
 |none=> .bad
def Cm(E:Env)(op:BinOp)(t:TypeId)(x y:Operand)(h:Heap)(a b:Option AV):Res:=match a with
 |some a=>match b with
  |some b=>bif wX E.P op t x y a b then ov (KR E (Qp E.P op t a b) (.bin op) [a,b]) h else .bad
  |none=> .bad
 |none=> .bad
def TX(E:Env)(op:UnOp)(h:Heap)(a:Option AV):Res:=match a with
 |some a=>ov (KR E (Kw op a) (.un op) [a]) h
 |none=> .bad
def CD(E:Env)(s d:TypeId)(h:Heap)(a:Option AV):Res:=match a with
 |some a=>match CM E.P s d a h with
  |some r=> .val r.1 r.2
  |none=>match GF E.P s d a h with
   |some r=> .choice [r]
   |none=>ov (E.fact (.conv d) [a]) h
 |none=> .bad
def CF(P:Program)(t:TypeId)(h:Heap)(a:Option AV):Res:=match a with
 |some v=>match P.underlying t with
  |some (.interface _)=> .bad
  |some _=> .val (.iface t v) h
  |none=> .bad
 |none=> .bad
def Bd(fn:Fn)(h:Heap)(a b:Option (List AV)):Res:=match a with
 |some a=>match b with
  |some b=>match fn with
   | .yield _=> .bad
   |fn=> .val (.func fn a b) h
  |none=> .bad
 |none=> .bad
def rJ(P:Program)(t:TypeId)(h:Heap)(r:Option (Option AV)):Res:=match P.underlying t with
 |some (.map _ _)=>match r with
  |some none=> .val (.map h.next) (h.new (.map [] 0))
  |some (some (.int _ _))=> .val (.map h.next) (h.new (.map [] 0))
  |_=> .bad
 |_=> .bad
def Av(P:Program)(t:TypeId)(h:Heap)(l c:Option AV):Res:=match l with
 |some l=>match c with
  |some c=>oh (xD P t l c h)
  |none=> .bad
 |none=> .bad
def Au(E:Env)(t:TypeId)(h:Heap)(x:Option AV)(lo hi mx:Option (Option AV)):Res:=match x with
 |some x=>match lo with
  |some lo=>match hi with
   |some hi=>match mx with
    |some mx=>bif hi.isNone&&mx.isSome then .bad else ov (OV E.P t x lo hi mx h) h
    |none=> .bad
   |none=> .bad
  |none=> .bad
 |none=> .bad
def cX4(P:Program)(t:TypeId)(f:Nat)(h:Heap)(a:Option AV):Res:=match a with
 |some a=>ov (MW P t a f) h
 |none=> .bad
def b95(P:Program)(t:TypeId)(f:Nat)(h:Heap)(a:Option AV):Res:=match a with
 |some a=>ov (Lg P t a f) h
 |none=> .bad
def s2(F:AV->AV->Option AV)(h:Heap)(a b:Option AV):Res:=match a with
 |some a=>match b with
  |some b=>ov (F a b) h
  |none=> .bad
 |none=> .bad
def CQ(F:AV->AV->AV->Option Heap)(a b c:Option AV):Res:=match a with
 |some a=>match b with
  |some b=>match c with
   |some c=>os (F a b c)
   |none=> .bad
  |none=> .bad
 |none=> .bad
def SM(F:AV->AV->Option (AV×Heap))(a b:Option AV):Res:=match a with
 |some a=>match b with
  |some b=>oh (F a b)
  |none=> .bad
 |none=> .bad
def NP(F:AV->Option (AV×Heap))(a:Option AV):Res:=match a with
 |some a=>oh (F a)
 |none=> .bad
def tS(F:AV->Res)(a:Option AV):Res:=match a with
 |some a=>F a
 |none=> .bad
def s1(F:AV->Option AV)(h:Heap)(a:Option AV):Res:=match a with
 |some a=>ov (F a) h
 |none=> .bad
def HN(i:Nat)(x:AV):Option AV:=match x with
 | .tup vs=>vs[i]?
 |_=>none
def xL(E:Env)(b:Builtin)(ts:Array TypeId)(h:Heap)(args:List AV):Res:=match Dn E.P b ts args h with
 |some r=> .val r.1 r.2
 |none=>match b with
  | .len=>ov (E.fact .len args) h
  | .max=>ov (E.fact .max args) h
  | .min=>ov (E.fact .min args) h
  |_=> .bad
def vL(E:Env)(ρ:Operand->Option AV)(c:Call)(h:Heap)(args:Option (List AV)):Res:=match args with
 |none=> .bad
 |some args=>match c.callee with
  | .builtin b=>xL E b c.argTypes h args
  | .invoke rc name=>tS (λv=>Uz E name [v] args h) (ρ rc)
  | .value f=>tS (λf=>Mh E f args h) (ρ f)
def Px(args:List AV)(f:AV):Res:=match f with
 | .func (.func g) first cap=> .defer (.fn g cap (first++args))
 |_=> .bad
def GD(ρ:Operand->Option AV)(c:Call)(args:Option (List AV)):Res:=match args with
 |none=> .bad
 |some args=>match c.callee with
  | .value f=>tS (Px args) (ρ f)
  |_=> .bad
def nm(E:Env)(ρ:Operand->Option AV)(o:Oper)(h:Heap):Res:=
 match o.op with
 | .move x=>ov (ρ x) h
 | .assign x=>ov (ρ x) h
 | .pick c a b=>wO ρ a b h (ρ c)
 | .alloc e=>uC e h (il E.P e)
 | .box e x=>uC e h (ρ x)
 | .build t ps=>LU E.P t h (iR ρ ps.toList)
 | .buildSlice t n ps=>AW E.P t n h (iR ρ ps.toList)
 | .load t a=>OH E.P t h (ρ a)
 | .store t a x=>TB E.P t h (ρ a) (ρ x)
 | .nilCheck x=>Cs E.P h (ρ x)
 | .binOp op t x y _=>Cm E op t x y h (ρ x) (ρ y)
 | .unOp op _ x=>TX E op h (ρ x)
 | .convert s d x=>CD E s d h (ρ x)
 | .makeInterface t x=>CF E.P t h (ρ x)
 | .makeFunc fn first cap=>Bd fn h (evs ρ first.toList) (evs ρ cap.toList)
 | .makeMap t r=>rJ E.P t h (eI ρ r)
 | .makeSlice t l c=>Av E.P t h (ρ l) (ρ c)
 | .slice t x lo hi mx=>Au E t h (ρ x) (eI ρ lo) (eI ρ hi) (eI ρ mx)
 | .fieldAddr s x f=>b95 E.P s f h (ρ x)
 | .field t x f=>cX4 E.P t f h (ρ x)
 | .indexAddr t x i=>s2 (OM E.P t) h (ρ x) (ρ i)
 | .index t x i=>s2 (Uy E.P t) h (ρ x) (ρ i)
 | .lookup t x i ok=>s2 (λa i=>MI E.P t a i ok h) h (ρ x) (ρ i)
 | .mapUpdate t m k x=>CQ (λm k v=>By E.P t m k v h) (ρ m) (ρ k) (ρ x)
 | .insert t m k x=>CQ (λm k v=>By E.P t m k v h) (ρ m) (ρ k) (ρ x)
 | .mapEntry t m k=>SM (λm k=>LZ E.P t m k h) (ρ m) (ρ k)
 | .entryStore _ m s x=>CQ (λm s v=>HQ m s v h) (ρ m) (ρ s) (ρ x)
 | .range t x=>NP (λa=>Ll E.P t a h) (ρ x)
 | .next it s=>tS (λa=>EH a s h) (ρ it)
 | .entry it=>s1 (λa=>LA a h) h (ρ it)
 | .typeAssert x _ t ok=>s1 (λa=>Nb E.P a t ok) h (ρ x)
 | .extract t i=>s1 (HN i) h (ρ t)
 | .call c=>vL E ρ c h (evs ρ c.args.toList)
 | .defer c=>GD ρ c (evs ρ c.args.toList)
 |_=> .bad
def jn:AV->Option (IntKind×SX)
 | .int k n=>some (k,.ci n)
 | .oint k e=>some (k,e)
 |_=>none
def lE:AV->Option SX
 | .str l=>some (.cs l)
 | .ostr e=>some e
 |_=>none
def lY:AV->Option SX
 | .bool b=>some (.cb b)
 | .obool e=>some e
 |_=>none
def Ji(op:BinOp)(k k':IntKind)(a b:SX)(h:Heap):Res:=match op with
 | .shl=> .need (.op (.cmp .leq) [.ci 0,b]) (.oint k (.op (.ar .shl k) [a,b])) h
 | .shr=> .need (.op (.cmp .leq) [.ci 0,b]) (.oint k (.op (.ar .shr k) [a,b])) h
 | .quo=>if k=k' then .need (.op (.cmp .neq) [b,.ci 0]) (.oint k (.op (.ar .quo k) [a,b])) h else .bad
 | .rem=>if k=k' then .need (.op (.cmp .neq) [b,.ci 0]) (.oint k (.op (.ar .rem k) [a,b])) h else .bad
 | .add| .sub| .mul| .and| .or| .xor| .andNot=>if k=k' then .val (.oint k (.op (.ar op k) [a,b])) h else .bad
 | .eql| .neq| .lss| .leq| .gtr| .geq=>if k=k' then .val (.obool (.op (.cmp op) [a,b])) h else .bad
def tJ:Int:=4294967296
def fZ(a b:SX):SX:= .op .iadd [a,b]
def IL(op:BinOp)(a b:SX)(h:Heap):Res:=match op with
 | .eql| .neq| .lss| .leq| .gtr| .geq=> .val (.obool (.op (.scmp op) [a,b])) h
 | .add=> .need (.op (.cmp .lss) [fZ (.op .slen [a]) (.op .slen [b]),.ci tJ]) (.ostr (.op .cat [a,b])) h
 |_=> .bad
def Cx(P:Program)(t:TypeId):Bool:=match P.underlying t with
 |some .bool=>true
 |_=>false
def TV(P:Program)(op:BinOp)(t:TypeId)(a b:SX)(h:Heap):Res:=match op with
 | .eql=>bif Cx P t then .val (.obool (.op .beq [a,b])) h else .bad
 | .neq=>bif Cx P t then .val (.obool (.op .not [.op .beq [a,b]])) h else .bad
 |_=> .bad
def gZ(a b:SX):SX:=match a with
 | .cb true=>b
 |_=>match b with
  | .cb true=>a
  |_=> .op .and [a,b]
def AP(P:Program)(ih:TypeId->AV->AV->Option SX)(xs ys:List AV):List Field->Option SX
 | []=>some (.cb true)
 |f::r=>bif f.name== "_" then AP P ih xs ys r else match jV P f.type xs f.offset,jV P f.type ys f.offset with
  |some a,some b=>match ih f.type a b with
   |some e=>match AP P ih xs ys r with
    |some e'=>some (gZ e e')
    |none=>none
   |none=>none
  |_,_=>none
def XE(k k':IntKind)(a b:SX):Option SX:=if k=k' then some (.op (.cmp .eql) [a,b])else none
def Rk(P:Program)(ih:TypeId->AV->AV->Option SX)(t:TypeId)(x y:AV):Option SX:=
 match P.underlying t with
 |some .bool=>match lY x,lY y with
  |some a,some b=>some (.op .beq [a,b])
  |_,_=>none
 |some (.int _)=>match jn x,jn y with
  |some (k,a),some (k',b)=>XE k k' a b
  |_,_=>none
 |some .string=>match lE x,lE y with
  |some a,some b=>some (.op (.scmp .eql) [a,b])
  |_,_=>none
 |some (.struct fields)=>match x,y with
  | .agg xs,.agg ys=>bif P.stoodInHeld t then none else AP P ih xs ys fields.toList
  |_,_=>none
 |_=>none
def dP1(_:TypeId)(_ _:AV):Option SX:=none
def FB(P:Program)(n:Nat):TypeId->AV->AV->Option SX:=Nat.rec (motive:=λ_=>TypeId->AV->AV->Option SX) dP1 (λ_=>Rk P) n
def yz(P:Program)(t:TypeId):Bool:=match P.underlying t with
 |some (.slice _)=>true
 |_=>false
def Hf(P:Program)(op:BinOp)(t:TypeId)(len:SX)(y:AV)(h:Heap):Res:=match y with
 | .nils=>bif yz P t then(match op with
   | .eql=> .cho (.op (.cmp .lss) [.ci 0,len]) (.bool false) [.bool true,.bool false] h
   | .neq=> .cho (.op (.cmp .lss) [.ci 0,len]) (.bool true) [.bool true,.bool false] h
   |_=> .bad)else .bad
 |_=> .bad
def JO(P:Program)(op:BinOp)(t:TypeId)(x y:AV)(h:Heap):Res:=match x with
 | .agg cs=>match FB P 10000 t (.agg cs) y with
   |some e=>match op with
    | .eql=> .val (.obool e) h
    | .neq=> .val (.obool (.op .not [e])) h
    |_=> .bad
   |none=> .bad
 | .osl _ _ len _=>Hf P op t len y h
 | .ous _ len _=>Hf P op t len y h
 |_=> .bad
def Od(P:Program)(op:BinOp)(t:TypeId)(x y:AV)(h:Heap):Res:=
 match jn x,jn y with
 |some (k,a),some (k',b)=>Ji op k k' a b h
 |_,_=>match lE x,lE y with
  |some a,some b=>IL op a b h
  |_,_=>match lY x,lY y with
   |some a,some b=>TV P op t a b h
   |_,_=>JO P op t x y h
def Ip(P:Program)(op:BinOp)(t:TypeId)(x y:Operand)(h:Heap)(a b:Option AV):Res:=match a with
 |some a=>match b with
  |some b=>bif wX P op t x y a b then Od P op t a b h else .bad
  |none=> .bad
 |none=> .bad
def JS(op:UnOp)(h:Heap)(a:Option AV):Res:=match a with
 |some (.obool e)=>match op with
  | .not=> .val (.obool (.op .not [e])) h
  |_=> .bad
 |some (.oint k e)=>match op with
  | .neg=> .val (.oint k (.op (.un .neg k) [e])) h
  | .xor=> .val (.oint k (.op (.un .xor k) [e])) h
  |_=> .bad
 |_=> .bad
def Ix(e x y:SX):SX:=match x,y with
 | .cb true,.cb false=>e
 | .cb false,.cb true=> .op .not [e]
 |x,y=> .op .ite [e,x,y]
def SW(h:Heap)(e:SX)(a b:Option AV):Res:=match a.bind lY,b.bind lY with
 |some x,some y=> .val (.obool (Ix e x y)) h
 |_,_=> .bad
def Ra(h:Heap)(e:SX)(a b:Option AV):Res:=match a,b with
 |some (.tup []),some y=> .need (.op .not [e]) y h
 |some x,some (.tup [])=> .need e x h
 |a,b=>SW h e a b
def Jg(h:Heap)(c a b:Option AV):Res:=match c with
 |some (.obool e)=>Ra h e a b
 |_=> .bad
def uA(c:CT)(e:SX):AV:=match c with
 | .int k=> .oint k e
 | .str=> .ostr e
 | .bool=> .obool e
def CO(sig:List CT)(l idx:SX):Nat->Nat->List AV
 |_,0=>[]
 |j,n+1=>uA (sig.getD j .bool) (.op .lget [l,idx,.ci j])::CO sig l idx (j+1) n
def FN(c:CT)(v:AV):Option SX:=match c with
 | .int k=>match jn v with
   |some (k',e)=>if k=k' then some e else none
   |none=>none
 | .str=>lE v
 | .bool=>lY v
def iI:List CT->List AV->Option (List SX)
 | [],[]=>some []
 |c::cs,v::vs=>match FN c v,iI cs vs with
  |some e,some es=>some (e::es)
  |_,_=>none
 |_,_=>none
def zS(idx len:SX):SX:= .op .and [.op (.cmp .leq) [.ci 0,idx],.op (.cmp .lss) [idx,len]]
def Md(P:Program)(t:TypeId)(h:Heap)(a:Option AV):Res:=match a with
 |some (.optr b idx j sz)=>match h.get b with
  |some (.arr _ sig l)=>match EM P t,ej P t with
   |some true,some n=>bif Nat.beq sig.length sz&&Nat.ble (j+n) sz then .need (zS idx (.op .llen [l])) (.agg (CO sig l idx j n)) h else .bad
   |some false,some _=>bif Nat.beq sig.length sz&&Nat.blt j sz then .need (zS idx (.op .llen [l])) (uA (sig.getD j .bool) (.op .lget [l,idx,.ci j])) h else .bad
   |_,_=> .bad
  |some (.vec cs)=>match EM P t,idx with
   |some false,.ci (.ofNat k)=>bif Nat.beq sz 1&&Nat.beq j 0 then(match cs[k]? with
    |some a=> .val a h
    |none=> .bad)else .bad
   |_,_=> .bad
  |_=> .bad
 |_=> .bad
def IE(a b:SX):SX:=match a with
 | .ci 0=>b
 |a=> .op .iadd [a,b]
def Np(a b:SX):SX:=match a with
 | .op (.cmp .leq) [.ci 0,.ci 0]=>b
 |a=> .op .and [a,b]
def LF(P:Program)(t:TypeId)(h:Heap)(x i:Option AV):Res:=match P.underlying t with
 |some (.slice elem)=>match ej P elem with
  |some s=>match i.bind jn with
   |some (_,i)=>match x with
    |some (.osl b off len sz)=>bif Nat.beq s sz then .need (Np (.op (.cmp .leq) [.ci 0,off]) (zS i len)) (.optr b (IE off i) 0 sz) h else .bad
    |some (.ous b len sz)=>bif Nat.beq s sz then .need (zS i len) (.optr b i 0 sz) h else .bad
    |_=> .bad
   |none=> .bad
  |none=> .bad
 |_=> .bad
def LQ(P:Program)(s:TypeId)(f:Nat)(h:Heap)(a:Option AV):Res:=match P.underlying s,a with
 |some (.struct fields),some (.optr b idx j sz)=>match fields[f]? with
  |some f=>match ej P f.type with
   |some (_+1)=> .val (.optr b idx (j+f.offset) sz) h
   |_=> .bad
  |none=> .bad
 |_,_=> .bad
def RY(P:Program)(t:TypeId)(h:Heap)(x i:Option AV):Res:= .bad
def oA(k:IntKind)(e:SX):AV:=match e with
 | .ci n=> .int k n
 |e=> .oint k e
def Lu(P:Program)(t:Option TypeDesc)(h:Heap)(x:AV):Res:=match t with
 |some .string=>match x with
  | .ostr e=> .val (.oint .i64 (.op .slen [e])) h
  |_=> .bad
 |some (.slice _)=>match x with
  | .osl _ _ len _=> .need (.op (.cmp .leq) [.ci 0,len]) (oA .i64 len) h
  | .ous _ len _=> .need (.op (.cmp .leq) [.ci 0,len]) (oA .i64 len) h
  |_=> .bad
 |_=> .bad
def KI(b:Builtin)(x y:AV)(h:Heap):Res:=match jn x,jn y with
 |some (k,a),some (_,c)=>match b with
  | .max=> .val (.oint k (.op .imax [a,c])) h
  | .min=> .val (.oint k (.op .imin [a,c])) h
  |_=> .bad
 |_,_=> .bad
def ea1:AV->Option CT
 | .int k _=>some (.int k)
 | .oint k _=>some (.int k)
 | .str _=>some .str
 | .ostr _=>some .str
 | .bool _=>some .bool
 | .obool _=>some .bool
 |_=>none
def Cw:List AV->Option (List CT)
 | []=>some []
 |a::r=>match ea1 a,Cw r with
  |some c,some cs=>some (c::cs)
  |_,_=>none
def mN(sig:List CT)(sz:Nat):Nat->List AV->Option (List SX)
 |0,_=>some []
 |n+1,cs=>match iI sig (cs.take sz),mN sig sz n (cs.drop sz)with
  |some e,some r=>some (.op .row e::r)
  |_,_=>none
def d70(off len l:SX):SX:= .op .and [.op .and [.op (.cmp .leq) [.ci 0,off],.op (.cmp .leq) [.ci 0,len]],.op .and [.op (.cmp .leq) [.op .iadd [off,len],.op .llen [l]],.op .bok [.op .lsub [l,off,.op .iadd [off,len]]]]]
def cH2(off len:SX)(sz:Nat)(x:Option Blk)(h:Heap):Res:=match x with
 |some (.arr _ [.int .u8] l)=>bif Nat.beq sz 1 then .need (d70 off len l) (.ostr (.op .bstr [.op .lsub [l,off,.op .iadd [off,len]]])) h else .bad
 |_=> .bad
def cH3(o n:Nat)(x:Option Blk)(h:Heap):Res:= .bad
def UG(a:Option AV)(h:Heap):Res:= .bad
def OO(e:TypeId)(a:Option AV)(h:Heap):Res:= .bad
def MB(P:Program)(s d:TypeId)(h:Heap)(a:Option AV):Res:=match P.underlying s,P.underlying d with
 |some _,some (.int k)=>match a with
  |some (.oint _ e)=> .val (.oint k (.op (.conv k) [e])) h
  |_=> .bad
 |some (.slice e),some .string=>bif vR P e then UG a h else .bad
 |some .string,some (.slice e)=>bif vR P e then OO e a h else .bad
 |some _,some .string=>match a with
  |some (.ostr e)=> .val (.ostr e) h
  |_=> .bad
 |_,_=> .bad
def gj:List CT->List CT->Bool
 | [],[]=>true
 |a::x,b::y=>decide (a=b)&&gj x y
 |_,_=>false
def IH(a b:SX):SX:=bif SX.beq a b then .cb true else .op (.cmp .eql) [a,b]
def Xm:SX->Bool
 | .app _ _=>true
 |_=>false
def Qs(sz:Nat)(y:AV)(h:Heap):Option (List CT×SX×SX):=match y with
 | .ous b len s=>match h.get b with
   |some (.arr _ sig l)=>bif Nat.beq s sz&&Nat.beq sig.length sz then(bif Xm len then some (sig,.op .and [.op (.cmp .leq) [.ci 0,len],.op (.cmp .leq) [len,.op .llen [l]]],.op .lsub [l,.ci 0,len])else some (sig,IH len (.op .llen [l]),l))else none
   |_=>none
 | .osl b off len s=>match h.get b with
   |some (.arr _ sig l)=>bif Nat.beq s sz&&Nat.beq sig.length sz then bif SX.beq off (.ci 0)&&SX.beq len (.op .llen [l])then some (sig,.cb true,l)else some (sig,.op .and [.op (.cmp .leq) [.ci 0,off],.op .and [.op (.cmp .leq) [.ci 0,len],.op (.cmp .leq) [.op .iadd [off,len],.op .llen [l]]]],.op .lsub [l,off,.op .iadd [off,len]])else none
   |_=>none
 | .sl b o n _=>match h.get b with
   |some (.cells _ _ cs)=>bif Nat.ble (o+n*sz) cs.length&&Nat.blt 0 n then(match Cw ((cs.drop o).take sz)with
    |some sig=>match mN sig sz n ((cs.drop o).take (n*sz))with
     |some rs=>some (sig,.cb true,.op .row rs)
     |none=>none
    |none=>none)else none
   |_=>none
 | .us b o n s=>match h.get b with
   |some (.cells _ _ cs)=>bif Nat.ble (o+n*sz) cs.length&&Nat.blt 0 n&&Nat.beq s sz then(match Cw ((cs.drop o).take sz)with
    |some sig=>match mN sig sz n ((cs.drop o).take (n*sz))with
     |some rs=>some (sig,.cb true,.op .row rs)
     |none=>none
    |none=>none)else none
   |_=>none
 |_=>none
def Zw(sz:Nat)(y:AV):Option (List CT×SX×SX):=bif Nat.beq sz 1 then(match lE y with
 |some e=>some ([.int .u8],.cb true,.op .sbytes [e])
 |none=>none)else none
def oV:Int:=1000000
def cX7(z:List AV)(y:AV):Option (List CT×SX×SX):=match jn y,Cw z with
 |some (_,e),some sig=>(match iI sig z with
  |some es=>some (sig,.op .and [.op (.cmp .leq) [.ci 0,e],.op (.cmp .leq) [e,.ci oV]],.op .lrep [e,.op .row es])
  |none=>none)
 |_,_=>none
def PM(P:Program)(yt sz:Nat)(z:List AV)(y:AV)(h:Heap):Option (List CT×SX×SX):=match P.underlying yt with
 |some (.slice _)=>Qs sz y h
 |some .string=>Zw sz y
 |some (.int _)=>cX7 z y
 |_=>none
def Pj(elem s:Nat)(sig:List CT)(x:AV)(h:Heap):Option (AV×Heap):=match x with
 | .sl b o n c=>match h.get b with
   |some (.cells e fz cs)=>bif Nat.beq e elem&&Nat.ble h.wm b&&Nat.ble fz o&&Nat.ble (o+c*s) cs.length&&Nat.ble n c&&Nat.beq sig.length s&&Nat.blt h.next 65536 then(match mN sig s n ((cs.drop o).take (n*s))with
    |some rs=>some (.ous h.next (.op .llen [.op .row rs]) s,(h.put b none).new (.arr elem sig (.op .row rs)))
    |none=>none)else none
   |_=>none
 | .us b o n s'=>match h.get b with
   |some (.cells e fz cs)=>bif Nat.beq e elem&&Nat.ble h.wm b&&Nat.ble fz o&&Nat.ble (o+n*s) cs.length&&Nat.beq s' s&&Nat.beq sig.length s&&Nat.blt h.next 65536&&Nat.blt 0 s then(match mN sig s n ((cs.drop o).take (n*s))with
    |some rs=>some (.ous h.next (.op .llen [.op .row rs]) s,(h.put b none).new (.arr elem sig (.op .row rs)))
    |none=>none)else none
   |_=>none
 | .ous b (.ci 0) s'=>match h.get b with
   |some (.arr e sg _)=>bif Nat.beq e elem&&Nat.ble h.wm b&&gj sg sig&&Nat.beq s' s&&Nat.beq sig.length s&&Nat.blt h.next 65536 then some (.ous h.next (.op .llen [.op .row []]) s,(h.put b none).new (.arr elem sig (.op .row [])))else none
   |_=>none
 |_=>none
def qv(l y:SX):SX:=match l with
 | .op .row []=>y
 |l=> .op .lcat [l,y]
def CS(elem s:Nat)(sig:List CT)(nd ly:SX)(x:AV)(h:Heap):Res:=match x with
 | .nils=>bif !(Nat.blt h.next 65536)then .bad else .need (gZ nd (.op (.cmp .leq) [.op .llen [ly],.ci oV])) (.ous h.next (.op .llen [ly]) s) (h.new (.arr elem sig ly))
 | .ous b len sz=>match h.get b with
   |some (.arr e sig' l)=>bif Nat.beq sz s&&Nat.beq e elem&&gj sig' sig&&Nat.ble h.wm b&&Nat.blt h.next 65536&& !(Nat.beq e iD)then
    .need (gZ nd (gZ (IH len (.op .llen [l])) (.op (.cmp .leq) [.op .llen [qv l ly],.ci oV]))) (.ous h.next (.op .llen [qv l ly]) s) ((h.put b none).new (.arr elem sig (qv l ly)))else .bad
   |_=> .bad
 |_=> .bad
def du6(elem s:Nat)(sig:List CT)(nd ly:SX)(x:AV)(h:Heap)(p:Option (AV×Heap)):Res:=match p with
 |some p=>CS elem s sig nd ly p.1 p.2
 |none=>CS elem s sig nd ly x h
def OF(P:Program)(ts:Array TypeId)(x y:AV)(h:Heap):Res:=match(ts[0]?).bind P.underlying,ts[1]? with
 |some (.slice elem),some yt=>match P.info? elem,il P elem with
  |some i,some z=>match PM P yt i.size z.cells y h with
   |some (sig,nd,ly)=>bif Nat.blt 0 i.size&&Nat.beq z.cells.length i.size&&Nat.ble i.bytes 1000&&Nat.beq ts.size 2&&Nat.beq sig.length i.size&& !(fC P elem)then du6 elem i.size sig nd ly x h (Pj elem i.size sig x h)else .bad
   |none=> .bad
  |_,_=> .bad
 |_,_=> .bad
def bP6(x:AV)(h:Heap):Res:= .bad
def cf3(P:Program)(ts:Array TypeId)(x y:AV)(h:Heap):Res:= .bad
def JC(P:Program)(b:Nat)(off len:SX)(sz:Nat)(z:List AV)(x:Option Blk)(h:Heap):Res:=match x with
 |some (.arr e sig l)=>(match iI sig z with
  |some es=>bif Nat.beq sig.length sz&&Nat.blt 0 sz&&Nat.ble h.wm b&& !(Nat.beq e iD)&& !(fC P e)then
   .need (.op .and [.op .and [.op (.cmp .leq) [.ci 0,off],.op (.cmp .leq) [.ci 0,len]],.op .and [.op (.cmp .leq) [len,.ci oV],.op (.cmp .leq) [.op .iadd [off,len],.op .llen [l]]]]) .undef (h.put b (some (.arr e sig (.op .lcat [.op .lsub [l,.ci 0,off],.op .lcat [.op .lrep [len,.op .row es],.op .lsub [l,.op .iadd [off,len],.op .llen [l]]]]))))else .bad
  |none=> .bad)
 |_=> .bad
def PB(P:Program)(t:Option TypeDesc)(x:AV)(h:Heap):Res:=match t with
 |some (.slice elem)=>(match il P elem with
  |some z=>bif fC P elem then .bad else(match x with
   | .osl b off len sz=>JC P b off len sz z.cells (h.get b) h
   | .ous b len sz=>JC P b (.ci 0) len sz z.cells (h.get b) h
   |_=> .bad)
  |none=> .bad)
 |_=> .bad
def du7(P:Program)(ts:Array TypeId)(x y:AV)(h:Heap):Res:= .bad
def kF(l idx:SX):Nat->Nat->List SX
 |_,0=>[]
 |j,n+1=> .op .lget [l,idx,.ci j]::kF l idx (j+1) n
def Ie:List CT->Nat->Nat->SX
 | [],_,_=> .cb true
 |c::r,i,j=>gZ (match c with
  | .int _=> .op (.cmp .eql) [.va i,.va j]
  | .str=> .op (.scmp .eql) [.va i,.va j]
  | .bool=> .op .beq [.va i,.va j]) (Ie r (i+1) (j+1))
def sm:List CT->Nat->List AV
 | [],_=>[]
 |c::r,i=>uA c (.va i)::sm r (i+1)
def sX(P:Program)(kt:TypeId)(ks:List CT):Bool:=pi P kt (.agg (sm ks 0))&&(match FB P 10000 kt (.agg (sm ks 0)) (.agg (sm ks ks.length))with
 |some e=>SX.beq e (Ie ks 0 ks.length)
 |none=>false)
def ea2:AV->Bool
 | .agg _=>true
 |_=>false
def lG(ks:List CT)(l:SX)(es:List SX):SX:= .op (.mfind ks) [l,.op .row es]
def ga(ks:List CT)(l:SX)(es:List SX):SX:= .op (.cmp .lss) [lG ks l es,.op .llen [l]]
def mw(ks:List CT)(l:SX)(es:List SX):List CT->Nat->List SX->List AV
 |c::cs,j,z::zs=>uA c (.op .ite [ga ks l es,.op .lget [l,lG ks l es,.ci j],z])::mw ks l es cs (j+1) zs
 |_,_,_=>[]
def kV:List AV->AV
 | [v]=>v
 |vs=> .agg vs
def uL(vs:List CT)(z:AV):Bool:=match vs with
 | []=>false
 | [_]=>z.one
 |_=>ea2 z
def BV(ks:List CT)(es zs:List SX)(l:SX):SX:=match l with
 | .op .ite [c,l0,.op .lcat [l1,.op .row [.op .row ez]]]=>bif SX.beq c (ga ks l0 es)&&SX.beq l1 l0&&SX.beqs ez (es++zs)then l0 else l
 |l=>l
def Tn(P:Program)(kt et:TypeId)(h:Heap)(b:Option Blk)(cs:List AV)(ok:Bool):Res:=match b,il P et with
 |some (.marr _ ks vs l),some z=>match iI ks cs,iI vs z.cells with
  |some es,some zs=>bif sX P kt ks&&Nat.ble 2 ks.length&&uL vs z then .val (bif ok then .tup [kV (mw ks l es vs ks.length zs),.obool (ga ks l es)]else kV (mw ks (BV ks es zs l) es vs ks.length zs)) h else .bad
  |_,_=> .bad
 |_,_=> .bad
def Kj(P:Program)(t:TypeId)(h:Heap)(m k:Option AV)(ok:Bool):Res:=match P.underlying t with
 |some (.map kt et)=>match m with
  |some (.map r)=>match k with
   |some (.agg cs)=>Tn P kt et h (h.get r) cs ok
   |_=> .bad
  |_=> .bad
 |_=> .bad
def Gm(ks:List CT)(l:SX)(es xs:List SX):SX:= .op .ite [ga ks l es,.op .lset [l,lG ks l es,.op .row (es++xs)],.op .lcat [l,.op .row [.op .row (es++xs)]]]
def cf6(P:Program)(kt:TypeId)(h:Heap)(r:Nat)(b:Option Blk)(ks vs:List CT)(z:AV)(cs:List AV)(x:AV):Res:=match iI ks cs,iI vs x.cells with
 |some es,some xs=>bif sX P kt ks&&Nat.ble 2 ks.length&&uL vs x&&Nat.ble h.wm r then(match b with
  |some (.marr d ks' vs' l)=>bif gj ks' ks&&gj vs' vs then .val .undef (h.put r (some (.marr d ks vs (Gm ks l es xs))))else .bad
  |some (.map [] c)=> .val .undef (h.put r (some (.marr (Nat.beq c 0) ks vs (.op .row [.op .row (es++xs)]))))
  |_=> .bad)else .bad
 |_,_=> .bad
def HX(P:Program)(t:TypeId)(h:Heap)(m k x:Option AV):Res:=match P.underlying t with
 |some (.map kt et)=>match m with
  |some (.map r)=>match k with
   |some (.agg cs)=>match x with
    |some x=>match il P kt,il P et with
     |some zk,some z=>match Cw zk.cells,Cw z.cells with
      |some ks,some vs=>cf6 P kt h r (h.get r) ks vs z cs x
      |_,_=> .bad
     |_,_=> .bad
    |none=> .bad
   |_=> .bad
  |_=> .bad
 |_=> .bad
def YH(P:Program)(t:TypeId)(h:Heap)(m k:Option AV):Res:= .bad
def VK(h:Heap)(m s x:Option AV):Res:= .bad
def du9(P:Program)(kt:TypeId)(h:Heap)(r:Nat)(b:Option Blk)(cs:List AV):Res:=match b with
 |some (.marr _ ks vs l)=>match iI ks cs with
  |some es=>bif sX P kt ks&&Nat.ble 2 ks.length&&Nat.ble h.wm r then .need (.cb true) .undef (h.put r (some (.marr false ks vs (.op (.mdel ks) [l,.op .row es]))))else .bad
  |none=> .bad
 |_=> .bad
def TS(P:Program)(u:Option TypeDesc)(h:Heap)(m k:AV):Res:=match u with
 |some (.map kt _)=>match m with
  | .map r=>match k with
    | .agg cs=>du9 P kt h r (h.get r) cs
    |_=> .bad
  |_=> .bad
 |_=> .bad
def HY(P:Program)(b:Builtin)(ts:Array TypeId)(h:Heap)(args:Option (List AV)):Res:=match args with
 |some [x]=>match b with
  | .len=>Lu P ((ts[0]?).bind P.underlying) h x
  | .unsafeSliceData=>bP6 x h
  | .clear=>PB P ((ts[0]?).bind P.underlying) x h
  |_=> .bad
 |some [x,y]=>match b with
  | .append=>OF P ts x y h
  | .unsafeString=>cf3 P ts x y h
  | .copy=>du7 P ts x y h
  | .delete=>TS P ((ts[0]?).bind P.underlying) h x y
  |_=>KI b x y h
 |_=> .bad
def Ls(P:Program)(ρ:Operand->Option AV)(c:Call)(h:Heap):Res:=match c.callee with
 | .builtin b=>HY P b c.argTypes h (evs ρ c.args.toList)
 |_=> .bad
def VZ(e:Nat)(sig:List CT)(l idx:SX)(b j n:Nat)(h:Heap)(es:Option (List SX)):Res:=match es with
 |some es=> .need (zS idx (.op .llen [l])) .undef (h.put b (some (.arr e sig (.op .lset [l,idx,.op .row (kF l idx 0 j++(es++kF l idx (j+n) (sig.length-(j+n))))]))))
 |none=> .bad
def Zr(P:Program)(b:Nat)(idx:SX)(j sz n:Nat)(v:AV)(h:Heap)(x:Option Blk):Res:=match x with
 |some (.arr e sig l)=>bif Nat.beq sig.length sz&&Nat.ble (j+n) sz&&v.nt&&Nat.beq v.cells.length n&&Nat.ble h.wm b&&Nat.blt 0 n&& !(fC P e)&& !(Nat.beq e iD)then VZ e sig l idx b j n h (iI ((sig.drop j).take n) v.cells)else .bad
 |_=> .bad
def Pv(P:Program)(t:TypeId)(h:Heap)(a v:Option AV):Res:=match a,v,ej P t with
 |some (.optr b idx j sz),some v,some n=>Zr P b idx j sz n v h (h.get b)
 |_,_,_=> .bad
def vK(x:Option (Option AV))(d:SX):Option SX:=match x with
 |some none=>some d
 |some (some v)=>(jn v).map (·.2)
 |none=>none
def FI(lo hi n:SX):SX:=gZ (bif SX.beq lo (.ci 0)then .cb true else .op (.cmp .leq) [.ci 0,lo]) (gZ (.op (.cmp .leq) [lo,hi]) (bif SX.beq hi n then .cb true else .op (.cmp .leq) [hi,n]))
def yO(a b:SX):SX:=match b with
 | .ci 0=>a
 |b=> .op .isub [a,b]
def Ot(s:SX)(h:Heap)(lo hi:Option SX):Res:=match lo,hi with
 |some lo,some hi=> .need (FI lo hi (.op .slen [s])) (.ostr (.op .ssub [s,lo,hi])) h
 |_,_=> .bad
def RK(b:Nat)(off len:SX)(sz:Nat)(h:Heap)(lo hi:Option SX):Res:=match lo,hi with
 |some lo,some hi=> .need (gZ (bif SX.beq off (.ci 0)then .cb true else .op (.cmp .leq) [.ci 0,off]) (FI lo hi len)) (.osl b (IE off lo) (yO hi lo) sz) h
 |_,_=> .bad
def SB(b:Nat)(len:SX)(sz:Nat)(h:Heap)(lo hi:Option SX):Res:=match lo,hi with
 |some lo,some hi=>bif SX.beq lo (.ci 0)then .need (FI (.ci 0) hi len) (.ous b hi sz) h else .need (FI lo hi len) (.osl b lo (yO hi lo) sz) h
 |_,_=> .bad
def Iv(P:Program)(t:TypeId)(h:Heap)(x:Option AV)(lo hi mx:Option (Option AV)):Res:=match x,mx with
 |some x,some none=>(match P.underlying t with
  |some .string=>(match lE x with
   |some s=>Ot s h (vK lo (.ci 0)) (vK hi (.op .slen [s]))
   |none=> .bad)
  |some (.slice elem)=>(match ej P elem,x with
   |some s,.osl b off len sz=>bif Nat.beq s sz then RK b off len sz h (vK lo (.ci 0)) (vK hi len)else .bad
   |some s,.ous b len sz=>bif Nat.beq s sz then SB b len sz h (vK lo (.ci 0)) (vK hi len)else .bad
   |_,_=> .bad)
  |_=> .bad)
 |_,_=> .bad
def qJ(E:Env)(ρ:Operand->Option AV)(o:Oper)(h:Heap):Res:=
 match o.op with
 | .binOp op t x y _=>Ip E.P op t x y h (ρ x) (ρ y)
 | .unOp op _ x=>JS op h (ρ x)
 | .convert s d x=>MB E.P s d h (ρ x)
 | .pick c a b=>Jg h (ρ c) (ρ a) (ρ b)
 | .load t a=>Md E.P t h (ρ a)
 | .indexAddr t x i=>LF E.P t h (ρ x) (ρ i)
 | .fieldAddr s x f=>LQ E.P s f h (ρ x)
 | .index t x i=>RY E.P t h (ρ x) (ρ i)
 | .store t a x=>Pv E.P t h (ρ a) (ρ x)
 | .slice t x lo hi mx=>Iv E.P t h (ρ x) (eI ρ lo) (eI ρ hi) (eI ρ mx)
 | .lookup t m k ok=>Kj E.P t h (ρ m) (ρ k) ok
 | .mapUpdate t m k x=>HX E.P t h (ρ m) (ρ k) (ρ x)
 | .insert t m k x=>HX E.P t h (ρ m) (ρ k) (ρ x)
 | .mapEntry t m k=>YH E.P t h (ρ m) (ρ k)
 | .entryStore _ m s x=>VK h (ρ m) (ρ s) (ρ x)
 | .call c=>Ls E.P ρ c h
 |_=> .bad
def dv1(r:Res)(s:Res):Res:=match r with
 | .bad=>s
 |r=>r
def fa(E:Env)(ρ:Operand->Option AV)(o:Oper)(h:Heap):Res:=dv1 (nm E ρ o h) (qJ E ρ o h)
def ol(o:Oper):Bool:=
 match o.op with
 | .move _| .pick .. | .alloc _| .box .. | .build .. | .buildSlice .. | .load .. | .nilCheck _| .binOp .. | .unOp .. | .makeInterface .. | .makeFunc ..
 | .makeMap .. | .makeSlice .. | .slice .. | .fieldAddr .. | .field .. | .indexAddr .. | .index .. | .lookup .. | .extract .. | .convert .. | .typeAssert .. =>true
 | .call {callee:= .builtin .len,..}| .call {callee:= .builtin .cap,..}| .call {callee:= .builtin .min,..}| .call {callee:= .builtin .max,..}=>true
 |_=>false
def gz(o:Oper):Bool:=
 match o.op with
 | .alloc _| .box .. | .buildSlice .. | .makeMap .. | .makeSlice .. =>true
 |_=>false
def qo(e:Edge):Bool:=match e.ground with
 | .textOnly _| .gcOnly _=>false
 |_=>true
def xi(acc:List Nat):List Edge->Nat
 | []=>0
 |e::r=>bif qo e then(2^e.on|||acc.getD e.on 0)|||xi acc r else xi acc r
def Mi:List Oper->List Nat->Option (List Nat)
 | [],acc=>some acc
 |o::r,acc=>bif o.after.toList.all (λe=> !qo e||Nat.blt e.on acc.length)then Mi r (acc++[xi acc o.after.toList])else none
def cY0:Operand->List Nat
 | .tmp t=>[t]
 |_=>[]
def nW(ops:List Oper)(o:Oper):List Nat:=
 o.op.operands.toList.flatMap cY0++(match o.guard with
  |some (j,_)=>match ops[j]? with
   |some g=>g.dst.toList
   |none=>[]
  |none=>[])
structure PO where
 i:Nat
 o:Oper
 m:Nat
 fl:Bool
def rq:List Oper->List Nat->Nat->List PO
 |o::r,m::ms,i=>⟨i,o,m,ol o⟩::rq r ms (i+1)
 |_,_,_=>[]
def UQ(done:Nat):List PO->List PO×List PO×Nat
 | []=>([],[],done)
 |x::r=>bif x.fl&&Nat.beq (x.m&&&done) x.m then
  let (a,b,d):=UQ (done|||2^x.i) r
  (x::a,b,d)
  else
   let (a,b,d):=UQ done r
   (a,x::b,d)
def XY:Nat->Nat->List PO->List PO
 |0,_,l=>l
 |f+1,done,l=>
  match UQ done l with
  |(a,b,d)=>match b.find? (λx=> !x.fl)with
   |none=>a++b
   |some c=>a++c::XY f (d|||2^c.i) (b.filter λx=> !(Nat.beq x.i c.i))
def AO(o:Oper)(t:Nat):Bool:=match o.dst with
 |some d=>Nat.beq d t
 |none=>false
def d73(ops:List Oper)(l:List PO):Bool:=
 l.all λx=>((nW ops x.o).all λt=>l.all λy=> !(AO y.o t)||x.m.testBit y.i||(!y.fl&&y.m.testBit x.i))&&
  (match x.o.dst with
  |none=>true
  |some d=>l.all λy=> !(AO y.o d)||Nat.beq x.i y.i)
def d74(l:List PO):Bool:=
 l.all λx=>x.fl||l.all λy=>y.fl|| !(Nat.blt y.i x.i)||x.m.testBit y.i
def eager:Nat->List PO->Bool
 |_,[]=>true
 |done,x::r=>Nat.beq (x.m&&&done) x.m&& !(done.testBit x.i)&&(x.fl||r.all (λy=> !y.fl|| !(Nat.beq (y.m&&&done) y.m)))&&eager (done|||2^x.i) r
def UB(ops:List Oper)(l:List PO):List PO:=(XY (ops.length+1) 0 l).filterMap λy=>l[y.i]?
def FM(ops:List Oper):Option (List PO):=
 match Mi ops []with
 |none=>none
 |some ms=>bif d73 ops (rq ops ms 0)&&d74 (rq ops ms 0)&&eager 0 (UB ops (rq ops ms 0))&&
  (rq ops ms 0).all (λx=>(UB ops (rq ops ms 0)).any λy=>Nat.beq x.i y.i)then some (UB ops (rq ops ms 0))else none
mutual
def AV.beq:AV->AV->Bool
 | .bool a,.bool b=>a==b
 | .int k a,.int k' b=>decide (k=k')&&mV a b
 | .str a,.str b=>xN a b
 | .nilp,.nilp| .nils,.nils| .es0,.es0| .nilm,.nilm| .nilf,.nilf| .nili,.nili=>true
 | .ptr a b,.ptr c d=>Nat.beq a c&&Nat.beq b d
 | .glob a,.glob b| .map a,.map b| .opq a,.opq b=>Nat.beq a b
 | .ostr a,.ostr b| .obool a,.obool b=>SX.beq a b
 | .osl a b c d,.osl a' b' c' d'=>Nat.beq a a'&&SX.beq b b'&&SX.beq c c'&&Nat.beq d d'
 | .optr a b c d,.optr a' b' c' d'=>Nat.beq a a'&&SX.beq b b'&&Nat.beq c c'&&Nat.beq d d'
 | .ous a b c,.ous a' b' c'=>Nat.beq a a'&&SX.beq b b'&&Nat.beq c c'
 | .any,.any=>true
 | .atl a,.atl b=>Nat.beq a b
 | .oint k a,.oint k' b=>decide (k=k')&&SX.beq a b
 | .es a b c,.es a' b' c'=>Nat.beq a a'&&Nat.beq b b'&&Nat.beq c c'
 | .sl a b c d,.sl a' b' c' d'=>Nat.beq a a'&&Nat.beq b b'&&Nat.beq c c'&&Nat.beq d d'
 | .us a b c d,.us a' b' c' d'=>Nat.beq a a'&&Nat.beq b b'&&Nat.beq c c'&&Nat.beq d d'
 | .func f a b,.func g c d=>decide (f=g)&&AV.beqs a c&&AV.beqs b d
 | .iface t v,.iface u w=>Nat.beq t u&&AV.beq v w
 | .agg a,.agg b| .tup a,.tup b=>AV.beqs a b
 |_,_=>false
def AV.beqs:List AV->List AV->Bool
 | [],[]=>true
 |a::x,b::y=>AV.beq a b&&AV.beqs x y
 |_,_=>false
end
mutual
def fA(v0:Nat):SX->Bool
 | .va m=>Nat.blt m v0
 | .op _ l=>qp v0 l
 | .app _ l=>qp v0 l
 |_=>true
def qp(v0:Nat):List SX->Bool
 | []=>true
 |a::r=>fA v0 a&&qp v0 r
end
mutual
def fj(v0 nb:Nat):AV->Bool
 | .bool _| .int _ _| .str _| .nilp| .glob _| .nils| .es0| .nilm| .nilf| .nili| .opq _| .atl _| .any=>true
 | .ptr b _=>Nat.blt b nb
 | .sl b _ _ _=>Nat.blt b nb
 | .us b _ _ _=>Nat.blt b nb
 | .es b _ _=>Nat.blt b nb
 | .map b=>Nat.blt b nb
 | .yield b=>Nat.blt b nb
 | .func _ x y=>oj v0 nb x&&oj v0 nb y
 | .iface _ v=>fj v0 nb v
 | .agg l=>oj v0 nb l
 | .tup l=>oj v0 nb l
 | .oint _ e=>fA v0 e
 | .ostr e=>fA v0 e
 | .obool e=>fA v0 e
 | .osl b x y _=>Nat.blt b nb&&fA v0 x&&fA v0 y
 | .optr b x _ _=>Nat.blt b nb&&fA v0 x
 | .ous b x _=>Nat.blt b nb&&fA v0 x
def oj(v0 nb:Nat):List AV->Bool
 | []=>true
 |a::r=>fj v0 nb a&&oj v0 nb r
end
def wk(v0:Nat)(e:SX):Option Nat:=match e with
 | .va m=>bif Nat.ble v0 m then some (m-v0)else none
 |_=>none
def mM(v0 n:Nat)(p x:SX):Option (List SX):=match wk v0 p with
 |some m=>bif Nat.beq m n then some [x]else none
 |none=>bif SX.beq p x&&fA v0 x then some []else none
def uz(v0 n:Nat)(p:SX)(x:Option SX):Option (List SX):=match x with
 |some x=>mM v0 n p x
 |none=>none
def La(v0 n:Nat)(k:IntKind)(p:SX)(x:Option (IntKind×SX)):Option (List SX):=match x with
 |some (k',x)=>if k=k' then mM v0 n p x else none
 |none=>none
def xM(v0 n:Nat)(p q x y:SX):Option (List SX):=match mM v0 n p x with
 |some es=>match mM v0 (n+es.length) q y with
  |some fs=>some (es++fs)
  |none=>none
 |none=>none
def EK(v0 nb n b:Nat)(p q:SX)(s:Nat)(x:AV):Option (List SX):=match x with
 | .osl b' x y s'=>bif Nat.beq b b'&&Nat.beq s s'&&Nat.blt b nb then xM v0 n p q x y else none
 |_=>none
def Fa(v0 nb n b:Nat)(p:SX)(s:Nat)(x:AV):Option (List SX):=match x with
 | .ous b' x s'=>bif Nat.beq b b'&&Nat.beq s s'&&Nat.blt b nb then mM v0 n p x else none
 |_=>none
mutual
def cF(v0 nb n:Nat):AV->AV->Option (List SX)
 | .any,_=>some []
 | .oint k p,x=>La v0 n k p (jn x)
 | .ostr p,x=>uz v0 n p (lE x)
 | .obool p,x=>uz v0 n p (lY x)
 | .agg ps,.agg xs=>mj v0 nb n ps xs
 | .osl b p q s,x=>EK v0 nb n b p q s x
 | .ous b p s,x=>Fa v0 nb n b p s x
 |p,x=>bif AV.beq p x&&fj v0 nb x then some []else none
def mj(v0 nb n:Nat):List AV->List AV->Option (List SX)
 | [],[]=>some []
 |p::ps,x::xs=>match cF v0 nb n p x with
  |some e=>match mj v0 nb (n+e.length) ps xs with
   |some es=>some (e++es)
   |none=>none
  |none=>none
 |_,_=>none
end
def yY(v0 nb:Nat):List Ent->List Ent->Bool
 | [],[]=>true
 |a::x,b::y=>AV.beq a.key b.key&&AV.beq a.val b.val&&Nat.beq a.born b.born&&fj v0 nb b.key&&fj v0 nb b.val&&yY v0 nb x y
 |_,_=>false
def oX(v0 nb n:Nat)(p x:Blk):Option (List SX):=match p,x with
 | .cells e fz ps,.cells e' fz' xs=>bif Nat.beq e e'&&Nat.beq fz fz'&&ps.all AV.oneA then mj v0 nb n ps xs else none
 | .arr e sig p,.arr e' sig' x=>bif Nat.beq e e'&&gj sig sig' then mM v0 n p x else none
 | .map es c,.map es' c'=>bif yY v0 nb es es'&&Nat.beq c c' then some []else none
 | .marr d ks vs p,.marr d' ks' vs' x=>bif (!d||d')&&(gj ks ks'&&gj vs vs')then mM v0 n p x else none
 | .marr d _ _ p,.map [] c=>bif !d||Nat.beq c 0 then mM v0 n p (.op .row [])else none
 | .bag e sig p,.bag e' sig' x=>bif Nat.beq e e'&&gj sig sig' then mM v0 n p x else none
 |_,_=>none
def sh(v0 nb n:Nat)(p x:Option Blk):Option (List SX):=match p with
 |none=>some []
 |some p=>match x with
  |some x=>oX v0 nb n p x
  |none=>none
def Jn(v0 nb:Nat)(aP a:Fr):Nat->Nat->Nat->Option (List SX)
 |0,_,_=>some []
 |m+1,t,n=>match cF v0 nb n (aP.slot t) (a.slot t)with
  |some e=>match Jn v0 nb aP a m (t+1) (n+e.length)with
   |some es=>some (e++es)
   |none=>none
  |none=>none
def LH(v0 nb:Nat)(hP h:Heap):Nat->Nat->Nat->Option (List SX)
 |0,_,_=>some []
 |m+1,b,n=>match sh v0 nb n (hP.get b) (h.get b)with
  |some e=>match LH v0 nb hP h m (b+1) (n+e.length)with
   |some es=>some (e++es)
   |none=>none
  |none=>none
def sA(a:Fr):Bool:=a.ds.isEmpty&&a.ro.isNone
def sG(v0:Nat)(aP:Fr)(hP:Heap)(a:Fr)(h:Heap):Option (List SX):=
 bif sA aP&&sA a&&Nat.beq aP.nt a.nt&&Nat.ble hP.next h.next&&Nat.beq hP.wm h.wm then
  (match Jn v0 hP.next aP a aP.nt 0 0 with
  |some es=>match LH v0 hP.next hP h hP.next 0 es.length with
   |some fs=>some (es++fs)
   |none=>none
  |none=>none)
 else none
def eM(a:Fr):List (Nat×AV)->Fr
 | []=>a
 |(t,v)::r=>eM (a.put (some t) v) r
def layDead(a:Fr):List Nat->Fr
 | []=>a
 |t::r=>layDead (a.put (some t) .any) r
def dv4(n:Nat)(t:TH)(_ wm:Nat):Heap:=⟨t,n,wm⟩
def Heap.upto(h:Heap)(n:Nat):Heap:=Heap.rec (dv4 n) h
def gJ(h:Heap):List (Nat×Option Blk)->Heap
 | []=>h
 |(b,x)::r=>gJ (h.put b x) r
def Mr(a:Fr)(b:Nat):Nat->Bool
 |0=>false
 |t+1=>(match a.slot t with
  | .ptr b' _=>Nat.beq b b'
  | .map b'=>Nat.beq b b'
  |_=>false)||Mr a b t
def dv5(h:Heap)(b:Nat):Bool:=match h.get b with
 |some (.arr _ _ _)=>true
 |_=>false
def Yv(b:Nat):AV->Bool
 | .map b'=>Nat.beq b b'
 |_=>false
def Vj(b:Nat)(x:Option Blk):Bool:=match x with
 |some (.cells _ _ cs)=>cs.any (Yv b)
 |_=>false
def KX(b:Nat)(h:Heap):AV->Bool
 | .ptr c _=>Vj b (h.get c)
 |_=>false
def Lc(a:Fr)(h:Heap)(b:Nat):Nat->Bool
 |0=>false
 |t+1=>(match a.slot t with
  | .func _ _ l=>l.any (KX b h)
  | .ptr c o=>KX b h (.ptr c o)
  |_=>false)||Lc a h b t
def Lr(a:Fr)(h:Heap)(n0:Nat)(next:Nat)(l:List (Nat×Option Blk)):Bool:=l.all λp=>Nat.blt p.1 next&&(Nat.ble n0 p.1||Mr a p.1 a.nt||dv5 h p.1||Lc a h p.1 a.nt)
def ed(v0:Nat)(q:Nat->SX)(e:SX):SX:=match wk v0 e with
 |some m=>q m
 |none=>e
mutual
def pj(v0:Nat)(q:Nat->SX):AV->AV
 | .oint k e=> .oint k (ed v0 q e)
 | .ostr e=> .ostr (ed v0 q e)
 | .obool e=> .obool (ed v0 q e)
 | .agg l=> .agg (Ce v0 q l)
 | .osl b x y s=> .osl b (ed v0 q x) (ed v0 q y) s
 | .ous b x s=> .ous b (ed v0 q x) s
 |x=>x
def Ce(v0:Nat)(q:Nat->SX):List AV->List AV
 | []=>[]
 |a::r=>pj v0 q a::Ce v0 q r
end
def xY(v0:Nat)(q:Nat->SX)(x:Option Blk):Option Blk:=match x with
 |some (.cells e fz cs)=>some (.cells e fz (Ce v0 q cs))
 |some (.arr e sig l)=>some (.arr e sig (ed v0 q l))
 |some (.marr d ks vs l)=>some (.marr d ks vs (ed v0 q l))
 |some (.bag e sig l)=>some (.bag e sig (ed v0 q l))
 |x=>x
def zY(v0 nb:Nat):Option Blk->Bool
 |none=>true
 |some (.cells _ _ cs)=>oj v0 nb cs
 |some (.arr _ _ l)=>fA v0 l
 |some (.marr _ _ _ l)=>fA v0 l
 |some (.bag _ _ l)=>fA v0 l
 |some (.map es _)=>yY v0 nb es es
 |_=>false
def zQ(v0 nb:Nat)(a:Fr):Nat->Bool
 |0=>true
 |t+1=>fj v0 nb (a.slot t)&&zQ v0 nb a t
def Jm(v0 nb:Nat)(h:Heap):Nat->Bool
 |0=>true
 |t+1=>zY v0 nb (h.get t)&&Jm v0 nb h t
mutual
def gk(b:Nat):AV->Bool
 | .ptr c _=> !(Nat.beq c b)
 | .sl c _ _ _=> !(Nat.beq c b)
 | .us c _ _ _=> !(Nat.beq c b)
 | .es c _ _=> !(Nat.beq c b)
 | .map c=> !(Nat.beq c b)
 | .yield c=> !(Nat.beq c b)
 | .func _ x y=>lS b x&&lS b y
 | .iface _ v=>gk b v
 | .agg l=>lS b l
 | .tup l=>lS b l
 | .osl c _ _ _=> !(Nat.beq c b)
 | .optr c _ _ _=> !(Nat.beq c b)
 | .ous c _ _=> !(Nat.beq c b)
 |_=>true
def lS(b:Nat):List AV->Bool
 | []=>true
 |a::r=>gk b a&&lS b r
end
def pf(b:Nat):Option Blk->Bool
 |none=>true
 |some (.cells _ _ cs)=>lS b cs
 |some (.arr _ _ _)=>true
 |some (.map es _)=>es.all λe=>gk b e.key&&gk b e.val
 |some (.marr _ _ _ _)=>true
 |some (.bag _ _ _)=>true
 |some (.mrg it _ _ _ _)=> !(Nat.beq it b)
 |some (.mit m)=> !(Nat.beq m b)
 |some (.vec cs)=>lS b cs
 |_=>false
def qM(b t:Nat)(a:Fr):Nat->Bool
 |0=>a.ds.isEmpty
 |s+1=>(Nat.beq s t||gk b (a.slot s))&&qM b t a s
def uM(b:Nat)(h:Heap):Nat->Bool
 |0=>true
 |s+1=>pf b (h.get s)&&uM b h s
def me(o:OwnP)(a:Fr)(h:Heap)(l:SX):Fr×Heap:=(a.put (some o.slot) (.ous o.blk (.op .llen [l]) o.sig.length),h.put o.blk (some (.arr o.elem o.sig l)))
def ID(len l:SX):Bool:=SX.beq len (.op .llen [l])||(match len,l with
 | .ci 0,.op .row []=>true
 |_,_=>false)
def Ko(o:OwnP)(a:Fr)(h:Heap):Option (Fr×Heap):=
 match a.slot o.slot with
 | .ous r len sz=>bif Nat.beq r o.blk then(match h.get r with
  |some (.arr e sig l)=>bif Nat.beq e o.elem&&gj sig o.sig&&Nat.beq sz sig.length then some (a,h)else none
  |_=>none)
  else bif Nat.blt o.slot a.nt&&Nat.blt o.blk h.next&&Nat.blt o.blk 65536&&(h.get o.blk).isNone&&qM o.blk o.slot a a.nt&&uM o.blk h h.next&&Nat.ble h.wm r then(match h.get r with
   |some (.arr e sig l)=>bif Nat.beq e o.elem&&gj sig o.sig&&Nat.beq sz sig.length&&ID len l then some (me o a (h.put r none) l)else none
   |_=>none)else none
 | .nils=>bif Nat.blt o.slot a.nt&&Nat.blt o.blk h.next&&Nat.blt o.blk 65536&&(h.get o.blk).isNone&&qM o.blk o.slot a a.nt&&uM o.blk h h.next then some (me o a h (.op .row []))else none
 | .us r 0 n sz=>bif Nat.blt o.slot a.nt&&Nat.blt o.blk h.next&&Nat.blt o.blk 65536&&(h.get o.blk).isNone&&qM o.blk o.slot a a.nt&&uM o.blk h h.next&&Nat.ble h.wm r&&Nat.blt 0 sz then(match h.get r with
  |some (.cells e 0 cs)=>bif Nat.beq e o.elem&&Nat.beq sz o.sig.length&&Nat.beq cs.length (n*sz)then(match mN o.sig sz n cs with
   |some rs=>some (me o a (h.put r none) (.op .row rs))
   |none=>none)else none
  |_=>none)else none
 | .sl r p n c=>bif Nat.blt o.slot a.nt&&Nat.blt o.blk h.next&&Nat.blt o.blk 65536&&(h.get o.blk).isNone&&qM o.blk o.slot a a.nt&&uM o.blk h h.next&&Nat.ble h.wm r then(match h.get r with
  |some (.cells e fz cs)=>bif Nat.beq e o.elem&&Nat.ble fz p&&Nat.ble (p+c*o.sig.length) cs.length&&Nat.ble n c then(match mN o.sig o.sig.length n ((cs.drop p).take (n*o.sig.length))with
   |some rs=>some (me o a (h.put r none) (.op .row rs))
   |none=>none)else none
  |_=>none)else none
 |_=>none
def Yb:AV->Bool
 | .ous _ _ _=>false
 | .us _ _ _ _=>false
 | .sl _ _ _ _=>false
 |_=>true
def yg(o:OwnP)(a:Fr)(h:Heap):Heap:=match a.slot o.slot with
 | .ous r _ _=>bif Nat.beq r o.blk||(h.get o.blk).isNone then h else h.put o.blk none
 |_=>h
def Wb(o:OwnP)(a:Fr)(h:Heap):Option (Fr×Heap):=bif o.lz&&Yb (a.slot o.slot)then some (a,h)else Ko o a (yg o a h)
def sv(o:OwnP)(c i e fz:Nat)(cs:List AV)(h:Heap)(l:SX):Heap:=(h.put c (some (.cells e fz (cs.set i (.ous o.blk (.op .llen [l]) o.sig.length))))).put o.blk (some (.arr o.elem o.sig l))
def Mv(b c:Nat)(cs:List AV)(h:Heap):Nat->Bool
 |0=>lS b cs
 |s+1=>(Nat.beq s c||pf b (h.get s))&&Mv b c cs h s
def NV(o:OwnP)(c i e fz:Nat)(cs:List AV)(a:Fr)(h:Heap)(x:Option AV):Option (Fr×Heap):=match x with
 |some (.ous r len sz)=>bif Nat.beq r o.blk then(match h.get r with
  |some (.arr e sig l)=>bif Nat.beq e o.elem&&gj sig o.sig&&Nat.beq sz sig.length then some (a,h)else none
  |_=>none)
  else bif Nat.ble h.wm r&& !(Nat.beq r c)then(match h.get r with
   |some (.arr e' sig l)=>bif Nat.beq e' o.elem&&gj sig o.sig&&Nat.beq sz sig.length&&ID len l then some (a,sv o c i e fz cs (h.put r none) l)else none
   |_=>none)else none
 |some .nils=>some (a,sv o c i e fz cs h (.op .row []))
 |some (.us r 0 n sz)=>bif Nat.ble h.wm r&&Nat.blt 0 sz&& !(Nat.beq r c)then(match h.get r with
  |some (.cells e' 0 ds)=>bif Nat.beq e' o.elem&&Nat.beq sz o.sig.length&&Nat.beq ds.length (n*sz)then(match mN o.sig sz n ds with
   |some rs=>some (a,sv o c i e fz cs (h.put r none) (.op .row rs))
   |none=>none)else none
  |_=>none)else none
 |_=>none
def Oc(b:Nat)(x:Option AV):Bool:=match x with
 |some (.ous r _ _)=>Nat.beq r b
 |_=>false
def Nl(c:Nat)(x:AV):Bool:=match x with
 | .ptr b _=>Nat.beq b c
 |_=>false
def OY(o:OwnP)(c i:Nat)(a:Fr)(h:Heap):Option (Fr×Heap):=match h.get c with
 |some (.cells e fz cs)=>bif Nl c (a.slot o.slot)&&Nat.blt o.slot a.nt&&Nat.blt i cs.length&&(Oc o.blk cs[i]? ||(Nat.blt o.blk h.next&&Nat.blt o.blk 65536&&(h.get o.blk).isNone&& !(Nat.beq c o.blk)&&qM o.blk a.nt a a.nt&&Mv o.blk c (cs.set i .nils) h h.next))then NV o c i e fz cs a h cs[i]? else none
 |_=>none
def Pn(o:OwnP)(a:Fr)(h:Heap):Option (Fr×Heap):=match o.cell with
 |none=>Wb o a h
 |some p=>OY o p.1 p.2 a h
def AK:List OwnP->Fr->Heap->Option (Fr×Heap)
 | [],a,h=>some (a,h)
 |o::r,a,h=>match Pn o a h with
  |some p=>AK r p.1 p.2
  |none=>none
def Az:Ex->Ex->Bool
 | .norm,.norm=>true
 | .ret,.ret=>true
 | .exit a,.exit b=>Nat.beq a b
 |_,_=>false
structure Pend where
 i:Nat
 o:Oper
 v:AV
 nd:Option SX
inductive Task (R:Type)where
 |code (c:Code) (a:Fr) (h:Heap) (k:Ex->Fr->Heap->R)
 |loop (c:Code) (a:Fr) (h:Heap) (k:Ex->Fr->Heap->R)
 |ops (all rest:List Oper) (a:Fr) (h:Heap) (k:Fr->Heap->R)
 |dops (all:List Oper) (rest:List PO) (pend:List Pend) (a:Fr) (h:Heap) (k:Fr->Heap->R)
 |call (f:FuncId) (args:List AV) (h:Heap) (k:AV->Heap->R)
 |body (f:FuncId) (args:List AV) (h:Heap) (k:AV->Heap->R)
 |dbody (f:FuncId) (args:List AV) (h:Heap) (k:AV->Heap->R)
 |leave (rs:List ResultVar) (a:Fr) (ds:List ADef) (h:Heap) (k:AV->Heap->R)
abbrev PC:=List (SX×Bool)
structure Alg (R:Type)where
 bad:R
 amb:List (AV×Heap)->(AV×Heap->R)->R
 ite:SX->R->R->R
 need:SX->R->R
 loop:LHd->VT->List R->R
 mloop:LHd->SX->VT->List R->R
def oz:Alg Bool:=⟨false,λl f=>l.all f,λ_ x y=>x&&y,λ_ _=>false,λ_ _ _=>false,λ_ _ _ _=>false⟩
def PV:Alg (Option (AV×Heap)):=⟨none,λl f=>match l with
 |x::_=>f x
 | []=>none,λ_ _ _=>none,λ_ _=>none,λ_ _ _=>none,λ_ _ _ _=>none⟩
structure VC where
 pc:PC
 cl:SX
def cY4(p:Prim)(l:List SX):SX×Bool:=match p,l with
 | .cmp .geq,[a,b]=>(.op (.cmp .lss) [a,b],false)
 | .cmp .gtr,[a,b]=>(.op (.cmp .lss) [b,a],true)
 | .cmp .leq,[a,b]=>(.op (.cmp .lss) [b,a],false)
 | .cmp .neq,[a,b]=>(.op (.cmp .eql) [a,b],false)
 | .scmp .geq,[a,b]=>(.op (.scmp .lss) [a,b],false)
 | .scmp .gtr,[a,b]=>(.op (.scmp .lss) [b,a],true)
 | .scmp .leq,[a,b]=>(.op (.scmp .lss) [b,a],false)
 | .scmp .neq,[a,b]=>(.op (.scmp .eql) [a,b],false)
 |p,l=>(.op p l,true)
def Ct(e:SX):SX×Bool:=match e with
 | .op p l=>cY4 p l
 |e=>(e,true)
def JE(e:SX):PC->Option Bool
 | []=>none
 |p::r=>bif SX.beq e p.1 then some p.2 else JE e r
def Ob(a b:Bool):Bool:=bif a then b else !b
def NC(c:SX×Bool)(pc:PC):Option Bool:=match JE c.1 pc with
 |some b=>some (Ob b c.2)
 |none=>none
def NL(a b:Option Bool):Option Bool:=match a with
 |some false=>some false
 |some true=>b
 |none=>match b with
  |some false=>some false
  |_=>none
def Uw(a b:Option Bool):Option Bool:=match a with
 |some true=>some true
 |some false=>b
 |none=>match b with
  |some true=>some true
  |_=>none
def e36(a:Option Bool):Option Bool:=match a with
 |some b=>some (!b)
 |none=>none
def Zs(c a b:Option Bool):Option Bool:=match c with
 |some true=>a
 |some false=>b
 |none=>none
def ZU(k:SX->Option Bool)(p:Prim)(l:List SX):Option Bool:=match p,l with
 | .not,[a]=>e36 (k a)
 | .and,[a,b]=>NL (k a) (k b)
 | .or,[a,b]=>Uw (k a) (k b)
 | .ite,[c,a,b]=>Zs (k c) (k a) (k b)
 |p,l=>LO (.op p l)
def cY6(k:SX->Option Bool)(e:SX):Option Bool:=match e with
 | .cb b=>some b
 | .op p l=>ZU k p l
 |_=>none
def SL(pc:PC)(k:SX->Option Bool)(e:SX):Option Bool:=match NC (Ct e) pc with
 |some b=>some b
 |none=>cY6 k e
def oU(pc:PC)(n:Nat):SX->Option Bool:=Nat.rec (motive:=λ_=>SX->Option Bool) (λ_=>none) (λ_ k=>SL pc k) n
def cY7(k:SX->Bool->PC)(p:Prim)(l:List SX)(b:Bool):PC:=match p,l with
 | .not,[a]=>k a (!b)
 | .and,[x,y]=>bif b then k x true++k y true else []
 | .or,[x,y]=>bif b then []else k x false++k y false
 | .ite,[c,x,.cb false]=>bif b then k c true++k x true else []
 | .ite,[c,.cb true,y]=>bif b then []else k c false++k y false
 |_,_=>[]
def Oh(k:SX->Bool->PC)(e:SX)(b:Bool):PC:=match e with
 | .op p l=>cY7 k p l b
 |_=>[]
def ZM(c:SX×Bool)(b:Bool):SX×Bool:=(c.1,Ob c.2 b)
def dv9(k:SX->Bool->PC)(e:SX)(b:Bool):PC:=ZM (Ct e) b::Oh k e b
def wM(n:Nat):SX->Bool->PC:=Nat.rec (motive:=λ_=>SX->Bool->PC) (λ_ _=>[]) (λ_ k=>dv9 k) n
abbrev ib:=PC->VT
def VS(pc:PC)(k:SX->SX)(p:Prim)(l:List SX):SX:=match p,l with
 | .ite,[c,a,b]=>(match oU pc 8 c with
   |some true=>k a
   |some false=>k b
   |none=> .op .ite [c,a,b])
 | .and,[a,b]=>(match oU pc 8 a with
   |some true=>k b
   |_=>(match oU pc 8 b with
    |some true=>k a
    |_=> .op .and [a,b]))
 | .or,[a,b]=>(match oU pc 8 a with
   |some false=>k b
   |_=>(match oU pc 8 b with
    |some false=>k a
    |_=> .op .or [a,b]))
 | .not,[a]=> .op .not [k a]
 |p,l=> .op p l
def Nv(pc:PC)(k:SX->SX)(e:SX):SX:=match e with
 | .op p l=>VS pc k p l
 |e=>e
def DJ(pc:PC)(n:Nat):SX->SX:=Nat.rec (motive:=λ_=>SX->SX) (λe=>e) (λ_ k=>Nv pc k) n
def dw0(pc:PC)(k:SX->SX)(p:Prim)(l:List SX):SX:=match p,l with
 | .ite,[c,a,b]=>(match oU pc 8 c with
   |some true=>k a
   |some false=>k b
   |none=> .op .ite [c,a,b])
 |p,l=> .op p l
def Pf(pc:PC)(k:SX->SX)(e:SX):SX:=match e with
 | .op p l=>dw0 pc k p l
 |e=>e
def KF(pc:PC)(n:Nat):SX->SX:=Nat.rec (motive:=λ_=>SX->SX) (λe=>e) (λ_ k=>Pf pc k) n
def UF(e:SX)(x y:ib)(pc:PC)(b:Option Bool):VT:=match b with
 |some true=>x pc
 |some false=>y pc
 |none=> .ite (DJ pc 16 e) (x (wM 8 e true++pc)) (y (wM 8 e false++pc))
def Sx(e:SX)(x:ib)(pc:PC)(b:Option Bool):VT:=match b with
 |some true=>x pc
 |_=> .need (DJ pc 16 e) (x (wM 8 e true++pc))
def UN(l:List (AV×Heap))(f:AV×Heap->ib)(pc:PC):VT:=match l with
 | [x]=>f x pc
 | [x,y]=> .both (f x pc) (f y pc)
 |_=> .bad
def ut(pc:PC):List ib->List VT
 | []=>[]
 |k::r=>k pc::ut pc r
def kG:Alg ib:=⟨λ_=> .bad,λl f pc=>UN l f pc,λe x y pc=>UF e x y pc (oU pc 8 e),λe x pc=>Sx e x pc (oU pc 8 e),λhd body ks pc=> .loop hd body (ut pc ks),λhd l body ks pc=> .mloop hd l body (ut pc ks)⟩
def eF(all:List Oper)(a:Fr)(o:Oper):Option Bool:=
 match o.guard with
 |none=>some true
 |some (j,want)=>match(all[j]?).bind (·.dst)with
  |none=>some false
  |some d=>bif Nat.blt d a.nt then match a.slot d with
   | .bool b=>some (b==want)
   | .obool e=>match xO e a.pc with
     |some b=>some (b==want)
     |none=>none
   | .opq _=>none
   | .any=>none
   |_=>some false
   else some false
def uJ(all:List Oper)(a:Fr)(o:Oper):Option SX:=
 match o.guard with
 |none=>none
 |some (j,_)=>match(all[j]?).bind (·.dst)with
  |none=>none
  |some d=>match a.slot d with
   | .obool e=>some e
   |_=>none
def RA(P:Program)(a:Fr)(h:Heap):ResultVar->Option AV
 | .tmp t=>some (a.slot t)
 | .cell x t=>Gc P t (a.slot x) h
def oY(P:Program)(a:Fr)(h:Heap):List ResultVar->Option (List AV)
 | []=>some []
 |r::l=>match RA P a h r,oY P a h l with
  |some v,some vs=>some (v::vs)
  |_,_=>none
def SY:List AV->AV
 | [v]=>v
 |vs=> .tup vs
def pS:List AV->Nat->TF->TF
 | [],_,t=>t
 |v::r,i,t=>pS r (i+1) (t.set i v)
def e39(nd:Option SX)(e:SX):Bool:=match nd with
 |some x=>SX.beq x e
 |none=>false
def bQ4(r:Res)(nd:Option SX)(v:AV):Bool:=match r with
 | .val v' _=>AV.beq v' v
 | .need e v' _=>e39 nd e&&AV.beq v' v
 |_=>false
def ug(E:Env)(a:Fr)(h:Heap):List Pend->Bool
 | []=>true
 |p::r=>(gz p.o||bQ4 (fa E a.ev p.o h) p.nd p.v)&&ug E a h r
def uW:AV->Bool
 | .bool _| .int _ _| .str _| .nilp| .nils| .nilm| .nilf| .nili| .oint _ _| .ostr _| .obool _=>true
 |_=>false
inductive Out where
 |plain (v:AV)
 |row (elem:Nat) (len sz:Nat) (cs:List AV)
 deriving Inhabited
def UR(wm:Nat)(h:Heap)(v:AV):Option Out:=
 match v with
 | .us b 0 len sz=>bif Nat.ble wm b then match h.get b with
   |some (.cells e 0 cs)=>bif Nat.beq cs.length (len*sz)&&cs.all uW then some (.row e len sz cs)else none
   |_=>none
   else none
 |v=>bif uW v then some (.plain v)else none
def pX(wm:Nat)(h:Heap):List AV->Option (List Out)
 | []=>some []
 |v::r=>match UR wm h v,pX wm h r with
  |some o,some os=>some (o::os)
  |_,_=>none
def pg:List Out->Nat
 | []=>0
 | .plain _::r=>pg r
 | .row _ _ _ _::r=>pg r+1
def In(b:Bool)(l:List Out):Option (Bool×List Out):=bif Nat.ble (pg l) 1 then some (b,l)else none
def zH(wm:Nat)(h:Heap)(v:AV):Option (Bool×List Out):=
 match v with
 | .tup vs=>(pX wm h vs).bind (In true)
 |v=>(pX wm h [v]).bind (In false)
def Out.beq:Out->Out->Bool
 | .plain a,.plain b=>AV.beq a b
 | .row e l s c,.row e' l' s' c'=>Nat.beq e e'&&Nat.beq l l'&&Nat.beq s s'&&AV.beqs c c'
 |_,_=>false
def LM:List Out->List Out->Bool
 | [],[]=>true
 |a::x,b::y=>Out.beq a b&&LM x y
 |_,_=>false
def dw1(x y:Option (Bool×List Out)):Bool:=
 match x,y with
 |some (a,l),some (b,m)=>(a==b)&&LM l m
 |_,_=>false
def mq:List Out->Heap->List AV×Heap
 | [],h=>([],h)
 | .plain v::r,h=>let (vs,h'):=mq r h;(v::vs,h')
 | .row e len sz cs::r,h=>let (vs,h'):=mq r (h.new (.cells e 0 cs));(.us h.next 0 len sz::vs,h')
def Fe(b:Bool)(l:List Out)(h:Heap):AV×Heap:=
 match mq l h with
 |(vs,h')=>(bif b then .tup vs else vs.headD .undef,h')
def dw2(t:TH)(next _:Nat):Heap:=⟨t,next,next⟩
def Heap.raise(h:Heap):Heap:=Heap.rec dw2 h
abbrev dE:=(R:Type)->Alg R->Task R->R
section
variable{R:Type}
def XA(rec:dE)(A:Alg R)(y:Code)(k:Ex->Fr->Heap->R)(e:Ex)(a:Fr)(h:Heap):R:=match e with
 | .norm=>rec R A (.code y a h k)
 |e=>k e a h
def HT(id:Nat)(k:Ex->Fr->Heap->R)(e:Ex)(a:Fr)(h:Heap):R:=match e with
 | .exit i=>bif Nat.beq i id then k .norm a h else k (.exit i) a h
 |e=>k e a h
def dP9(rec:dE)(A:Alg R)(c:Code)(k:Ex->Fr->Heap->R)(e:Ex)(a:Fr)(h:Heap):R:=match e with
 | .norm=>rec R A (.loop c a h k)
 |e=>k e a h
def GO(ro:Option Nat)(k:Ex->Fr->Heap->R)(a:Fr)(h:Heap):R:=k .norm (a.back ro) h
def Ww(rec:dE)(A:Alg R)(x y:Code)(a:Fr)(h:Heap)(k:Ex->Fr->Heap->R)(e:SX)(p:Option Bool):R:=match p with
 |some b=>rec R A (.code (bif b then x else y) a h k)
 |none=>A.ite e (rec R A (.code x (a.cond (e,true)) h k)) (rec R A (.code y (a.cond (e,false)) h k))
def RM(rec:dE)(A:Alg R)(x y:Code)(a:Fr)(h:Heap)(k:Ex->Fr->Heap->R)(v:Option AV):R:=match v with
 |some (.bool b)=>rec R A (.code (bif b then x else y) a h k)
 |some (.obool e)=>Ww rec A x y a h k e (xO e a.pc)
 |_=>A.bad
def Af:Code->Nat
 | .region id _ _=>id
 | .seq x _=>Af x
 | .block _ b=>Af b
 | .loop b=>Af b
 | .scope b=>Af b
 |_=>0
structure LSt where
 a:Fr
 h:Heap
def fO(id:Nat)(args:List SX)(j:Nat):SX:= .op .lget [.app id args,.ci 1,.ci j]
def dw(sp:LSpec)(a:Fr)(h:Heap):LSt:=⟨(eM (layDead a sp.dead) sp.head.slots).clear,gJ h sp.head.blks⟩
def fc(sp:LSpec)(a:Fr)(h:Heap):LSt:=⟨layDead (layDead a sp.dead) (sp.head.slots.map (·.1)),gJ h (sp.head.blks.map λp=>(p.1,none))⟩
def gN(sp:LSpec)(a:Fr)(h:Heap)(x:StP):LSt:=⟨(eM (fc sp a h).a x.slots).clear,(gJ (fc sp a h).h x.blks).upto x.next⟩
def ke(sp:LSpec)(q:Nat->SX)(a:Fr)(h:Heap)(x:StP):LSt:=
 ⟨eM (fc sp a h).a (x.slots.map λp=>(p.1,pj sp.v0 q p.2)),(gJ (fc sp a h).h (x.blks.map λp=>(p.1,xY sp.v0 q p.2))).upto x.next⟩
def rS(sp:LSpec)(a:Fr)(h:Heap)(e:Ex)(a':Fr)(h':Heap):List (Ex×StP)->Nat->VT
 | [],_=> .bad
 |x::r,i=>bif Az x.1 e then(match sG sp.v0 (gN sp a h x.2).a (gN sp a h x.2).h a' h' with
  |some es=> .ret (i+1) es
  |none=>rS sp a h e a' h' r (i+1))else rS sp a h e a' h' r (i+1)
def iH(sp:LSpec)(a:Fr)(h:Heap):Fr×Heap:=match AK sp.owns (layDead a sp.dead) h with
 |some p=>p
 |none=>(layDead a sp.dead,h)
def NE(p:Prim)(l:List SX):Bool:=match p,l with
 | .cmp .leq,[.ci 0,.op .llen [_]]=>true
 | .cmp .leq,[.ci 0,.op .slen [_]]=>true
 | .cmp .leq,[.ci a,.ci b]=> !(iv b a)
 | .cmp .lss,[.ci a,.ci b]=>iv a b
 |_,_=>false
def Fl(e:SX):Bool:=match e with
 | .cb b=>b
 | .op p l=>NE p l
 |_=>false
def EJ(e:SX):Bool:=match e with
 | .op .and [a,b]=>Fl a&&Fl b
 |e=>Fl e
def BG(e:SX):Bool:=match e with
 | .op .and [a,b]=>EJ a&&EJ b
 |e=>EJ e
def Lk(p:Prim)(l:List SX):Bool:=match p,l with
 | .cmp .leq,[.ci a,.ci b]=> !(iv b a)
 | .cmp .lss,[.ci a,.ci b]=>iv a b
 | .bok,[.op .row []]=>true
 |_,_=>false
def VP(p:Prim)(l:List SX):SX:=bif Lk p l then .cb true else .op p l
def Dc:Nat->SX->SX
 |0,e=>e
 |n+1,e=>match e with
  | .op .and [a,b]=>gZ (Dc n a) (Dc n b)
  | .op p l=>VP p l
  |e=>e
def dw4(e:SX):Bool:=match e with
 | .op .and [.op .and [.op .and [_,_],_],_]=>true
 |_=>false
def Zx(A:Alg R)(e:SX)(x:R):R:=match e with
 | .cb true=>x
 |e=>A.need e x
def needA(A:Alg R)(e:SX)(x:R):R:=bif BG e then x else bif dw4 e then Zx A (Dc 30 e) x else A.need e x
def oK(o:OwnP)(a:Fr)(h:Heap):SX×Fr:=match o.cell,a.slot o.slot with
 |none,.ous r len s=>(match h.get r with
  |some (.arr _ _ l)=>bif Nat.beq r o.blk||SX.beq len (.op .llen [l])then(.cb true,a)else(.op (.cmp .eql) [len,.op .llen [l]],a.put (some o.slot) (.ous r (.op .llen [l]) s))
  |_=>(.cb true,a))
 |_,_=>(.cb true,a)
def eS:List OwnP->Fr->Heap->SX×Fr
 | [],a,_=>(.cb true,a)
 |o::r,a,h=>match oK o a h with
  |(e,a')=>match eS r a' h with
   |(e',b)=>(gZ e e',b)
def Ju(e:SX)(x:VT):VT:=bif BG e then x else .need e x
def Bz(sp:LSpec)(a:Fr)(h:Heap)(p:Fr×Heap):VT:=match sG sp.v0 (dw sp a h).a (dw sp a h).h p.1 p.2 with
 |some es=> .ret 0 es
 |none=> .bad
def Ov(sp:LSpec)(a:Fr)(h:Heap)(e:Ex)(p:Fr×Heap):VT:=rS sp a h e p.1 p.2 sp.exits 0
def dw6(sp:LSpec)(a:Fr)(h:Heap)(e:Ex)(a':Fr)(h':Heap):VT:=match e with
 | .norm=>Ju (eS sp.owns a' h').1 (Bz sp a h (iH sp (eS sp.owns a' h').2 h'))
 |e=>Ju (eS sp.owns a' h').1 (Ov sp a h e (iH sp (eS sp.owns a' h').2 h'))
def vW(sp:LSpec)(a:Fr)(h:Heap)(e:Ex)(a':Fr)(h':Heap)(_:PC):VT:=dw6 sp a h e a' h'
def ya(sp:LSpec)(a:Fr)(h:Heap)(n0:Nat):Bool:=sp.owns.all (λo=>Nat.ble n0 o.blk)&&Lr a h n0 h.next sp.head.blks&&sp.exits.all (λx=>Nat.ble h.next x.2.next&&Lr a h n0 x.2.next x.2.blks)&&qp sp.v0 sp.fv&&sA a&&zQ sp.v0 h.next (fc sp a h).a a.nt&&Jm sp.v0 h.next (fc sp a h).h h.next
def Jr(rec:dE)(A:Alg R)(c:Code)(n0:Nat)(k:Ex->Fr->Heap->R)(sp:LSpec)(a:Fr)(h:Heap):R:=
 bif ya sp a h n0 then
  (match sG sp.v0 (dw sp a h).a (dw sp a h).h a h with
  |some s0=>A.loop ⟨sp.id,s0,sp.v0,sp.fv⟩ (rec ib kG (.code c (dw sp a h).a (dw sp a h).h (vW sp a h)) [])
   (sp.exits.map λx=>k x.1 (ke sp (fO sp.id (s0++sp.fv)) a h x.2).a (ke sp (fO sp.id (s0++sp.fv)) a h x.2).h)
  |none=>A.bad)
 else A.bad
structure MC where
 ops1:Array Oper
 o1:Oper
 o2:Oper
 tok:Operand
 xid:Nat
 bid:Nat
 ops2:Array Oper
 o3:Oper
 r3:List Oper
 rest:Code
def CG(c:Code):Option MC:=match c with
 | .seq (.region _ ops1 false) (.seq (.cond tok .skip (.exit x)) (.block b (.seq (.region _ ops2 false) rest)))=>(match ops1.toList,ops2.toList with
   | [o1,o2],o3::r3=>some ⟨ops1,o1,o2,tok,x,b,ops2,o3,r3,rest⟩
   |_,_=>none)
 |_=>none
structure MO where
 it:Nat
 d1:Nat
 d2:Nat
 d3:Nat
def vQ(o:Oper):Bool:=match o.guard with
 |none=>true
 |some _=>false
def dQ0(it d1 d2 d3:Nat)(nt:Nat)(o1 o2 o3:Oper):Option MO:=bif vQ o1&&vQ o2&&vQ o3&&Nat.blt d1 nt&&Nat.blt d2 nt&& !(Nat.beq d1 d2)then some ⟨it,d1,d2,d3⟩else none
def Mt(m:MC)(a:Fr):Option MO:=match m.o1.op,m.o1.dst,m.o2.op,m.o2.dst,m.tok,m.o3.op,m.o3.dst with
 | .next (.tmp t) false,some d1,.extract (.tmp d1') 0,some d2,.tmp d2',.entry (.tmp t'),some d3=>bif Nat.beq d1 d1'&&Nat.beq d2 d2'&&Nat.beq t t'&& !(Nat.beq t d1)&& !(Nat.beq t d2)then(match a.slot t with
   | .ptr it 0=>dQ0 it d1 d2 d3 a.nt m.o1 m.o2 m.o3
   |_=>none)else none
 |_,_,_,_,_,_,_=>none
def ea3(b:Nat)(p:Nat×Option Blk):Nat×Option Blk:=bif Nat.beq p.1 b then(match p.2 with
 |some (.arr e sig l)=>(p.1,some (.bag e sig l))
 |_=>p)else p
def EB(sp:LSpec)(it m ob:Nat)(lm:SX):LSpec:=⟨sp.id,sp.owns,sp.v0,sp.fv++[lm],sp.dead,⟨sp.head.slots,(it,none)::(m,none)::sp.head.blks,sp.head.next⟩,sp.exits.map λx=>(x.1,⟨x.2.slots,x.2.blks.map (ea3 ob),x.2.next⟩),true⟩
def Gz(ks vs:List CT)(l idx:SX):AV:= .tup [kV (CO (ks++vs) l idx 0 ks.length),kV (CO (ks++vs) l idx ks.length vs.length)]
def ZV(rec:dE)(sp:LSpec)(mc:MC)(a:Fr)(h:Heap)(a3:Fr):VT:=rec ib kG (.ops mc.ops2.toList mc.r3 a3 (dw sp a h).h (GO none (XA rec kG mc.rest (HT mc.bid (vW sp a h))))) []
def Mq(v0 nb ob b:Nat)(x:Option Blk):Bool:=bif Nat.beq b ob then(match x with
 |some (.arr _ _ (.va n))=>Nat.beq n (v0+1)
 |_=>false)else zY (v0+1) nb x
def AJ(v0 nb ob:Nat)(h:Heap):Nat->Bool
 |0=>true
 |t+1=>Mq v0 nb ob t (h.get t)&&AJ v0 nb ob h t
def EL(x:Option Blk):Option Blk:=match x with
 |some (.arr e sig l)=>some (.bag e sig l)
 |x=>x
def GB(x:Option Blk):Bool:=match x with
 |none=>true
 |some _=>false
def NQ(v0:Nat)(es:List SX):Bool:=match es with
 | [.va n,.va m]=>Nat.beq n v0&&Nat.beq m (v0+1)
 |_=>false
def Hj(h1 h2:Heap):Nat->Bool
 |0=>true
 |t+1=>(GB (h1.get t)|| !(GB (h2.get t)))&&Hj h1 h2 t
def tG(sp:LSpec)(mo:MO)(a:Fr)(h:Heap):Fr:=((dw sp a h).a.put (some mo.d1) (.tup [.bool false])).put (some mo.d2) (.bool false)
def JJ(sp:LSpec)(mo:MO)(ob:Nat)(a:Fr)(h:Heap)(x:StP):Bool:=match sG sp.v0 (gN sp a h x).a (gN sp a h x).h (tG sp mo a h) ((dw sp a h).h.put ob (EL ((dw sp a h).h.get ob)))with
 |some es=>NQ sp.v0 es
 |none=>false
def Jf(sp:LSpec)(a:Fr)(h:Heap)(n0:Nat)(mo:MO)(m ob:Nat)(lm:SX):Bool:=
 ya sp a h n0&&Nat.ble h.wm n0&&Nat.ble h.wm mo.it&&Nat.blt m n0&&Nat.ble n0 ob&&Nat.blt mo.it n0&&GB ((dw sp a h).h.get mo.it)&&GB ((dw sp a h).h.get m)&&fA sp.v0 lm&&
 zQ (sp.v0+1) h.next (dw sp a h).a a.nt&&zQ (sp.v0+1) h.next (tG sp mo a h) a.nt&&AJ sp.v0 h.next ob (dw sp a h).h h.next
def MS(rec:dE)(A:Alg R)(n0:Nat)(k:Ex->Fr->Heap->R)(sp:LSpec)(a:Fr)(h:Heap)(mc:MC)(mo:MO)(m ob:Nat)(d:Bool)(ks vs:List CT)(lm:SX)(x:Ex×StP):R:=match x.1 with
 | .exit xid=>bif Nat.beq xid mc.xid&&Jf sp a h n0 mo m ob lm&&Nat.blt m x.2.next&&JJ sp mo ob a h x.2 then(match sG sp.v0 (dw sp a h).a (dw sp a h).h a h with
  |some [s0,s1]=>bif Hj (ke sp (fO sp.id (s0::s1::sp.fv)) a h x.2).h (dw sp a h).h x.2.next then A.mloop ⟨sp.id,[s0,s1],sp.v0,sp.fv⟩ lm
   (ZV rec sp mc a h ((((dw sp a h).a.put (some mo.d1) .any).put (some mo.d2) (.bool true)).put (some mo.d3) (Gz ks vs lm (.va (sp.v0+2)))))
   [k x.1 (ke sp (fO sp.id (s0::s1::sp.fv)) a h x.2).a ((ke sp (fO sp.id (s0::s1::sp.fv)) a h x.2).h.put m (some (.marr d ks vs lm)))]else A.bad
  |_=>A.bad)else A.bad
 |_=>A.bad
def Nu(rec:dE)(A:Alg R)(n0:Nat)(k:Ex->Fr->Heap->R)(sp:LSpec)(a:Fr)(h:Heap)(mc:MC)(mo:MO)(m:Nat)(b:Option Blk)(o:List OwnP):R:=match b,o with
 |some (.mrg it' d ks vs lm),[o]=>bif Nat.beq it' mo.it then(match(EB sp mo.it m o.blk lm).exits with
  | [x]=>MS rec A n0 k (EB sp mo.it m o.blk lm) a h mc mo m o.blk d ks vs lm x
  |_=>A.bad)else A.bad
 |_,_=>A.bad
def UU(rec:dE)(A:Alg R)(n0:Nat)(k:Ex->Fr->Heap->R)(sp:LSpec)(a:Fr)(h:Heap)(mc:MC)(mo:Option MO):R:=match mo with
 |some mo=>(match h.get mo.it with
  |some (.mit m)=>Nu rec A n0 k sp a h mc mo m (h.get m) sp.owns
  |_=>A.bad)
 |none=>A.bad
def EI(rec:dE)(A:Alg R)(n0:Nat)(k:Ex->Fr->Heap->R)(sp:LSpec)(a:Fr)(h:Heap)(mc:Option MC):R:=match mc with
 |some mc=>UU rec A n0 k sp a h mc (Mt mc (dw sp a h).a)
 |none=>A.bad
def TA(rec:dE)(A:Alg R)(c:Code)(n0:Nat)(k:Ex->Fr->Heap->R)(sp:LSpec)(p:Fr×Heap):R:=bif sp.mapr then EI rec A n0 k sp p.1 p.2 (CG c)else Jr rec A c n0 k sp p.1 p.2
def NA(rec:dE)(A:Alg R)(c:Code)(a:Fr)(h:Heap)(k:Ex->Fr->Heap->R)(sp:LSpec):R:=
 bif sA a then needA A (eS sp.owns a h).1 (TA rec A c h.next k sp (iH sp (eS sp.owns a h).2 (h.upto (Nat.add h.next sp.owns.length))))else A.bad
def VI(rec:dE)(A:Alg R)(c:Code)(a:Fr)(h:Heap)(k:Ex->Fr->Heap->R)(sp:Option LSpec):R:=match sp with
 |some sp=>NA rec A c a h k sp
 |none=>rec R A (.code c a h (dP9 rec A c k))
def Yc(rec:dE)(A:Alg R)(ops:List Oper)(a:Fr)(h:Heap)(k:Ex->Fr->Heap->R)(p:Option (List PO)):R:=match p with
 |some l=>rec R A (.dops ops l [] a h (GO a.ro k))
 |none=>A.bad
def d90(rec:dE)(A:Alg R)(ops:List Oper)(draw:Bool)(a:Fr)(h:Heap)(k:Ex->Fr->Heap->R):R:=
 bif draw then Yc rec A ops a h k (FM ops)else rec R A (.ops ops ops a h (GO a.ro k))
def MU(rec:dE)(A:Alg R)(a:Fr)(k:Ex->Fr->Heap->R)(h:Heap)(pend:Option Code):R:=match pend with
 |none=>k .norm a h
 |some c=>rec R A (.code c a h k)
def Yu(rec:dE)(A:Alg R)(a:Fr)(k:Ex->Fr->Heap->R)(h:Heap)(pend:Option Code)(st:LoopState):R:=match st with
 | .busy=>A.bad
 | .ready=>MU rec A a k h pend
 | .done=>MU rec A a k h pend
 | .exhausted=>MU rec A a k h pend
def cY8(rec:dE)(A:Alg R)(l:Nat)(a:Fr)(k:Ex->Fr->Heap->R)(_:AV)(h:Heap):R:=match h.get l with
 |some (.loop st pend fn tm nt ps assign body d)=>bif Nat.ble h.wm l then Yu rec A a k (h.put l (some (.loop .exhausted pend fn tm nt ps assign body d))) pend st else A.bad
 |_=>A.bad
def ch8(rec:dE)(A:Alg R)(l:Nat)(a:Fr)(h:Heap)(k:Ex->Fr->Heap->R)(r:Res):R:=match r with
 | .enter g args=>rec R A (.call g args h (cY8 rec A l a k))
 |_=>A.bad
def LI(h:Heap)(ro:Option Nat):Option (Nat×Heap×List ADef):=match ro with
 |none=>some (h.next,h.new (.defd false),[ADef.coll h.next])
 |some l=>match h.get l with
  |some (.loop _ _ _ _ _ _ _ _ d)=>some (d,h,[])
  |_=>none
def QD(E:Env)(rec:dE)(A:Alg R)(ps:Array Tmp)(assign body:Code)(a:Fr)(k:Ex->Fr->Heap->R)(x:Option (Nat×Heap×List ADef))(f:Option AV):R:=match x with
 |some (d,h,mark)=>match f with
  |some fv=>ch8 rec A h.next (a.mark mark) (h.new (.loop .ready none a.fn a.tm a.nt ps assign body d)) k
   (Mh E fv [.yield h.next] (h.new (.loop .ready none a.fn a.tm a.nt ps assign body d)))
  |none=>A.bad
 |none=>A.bad
def dx3(E:Env)(rec:dE)(A:Alg R)(c:Code)(a:Fr)(h:Heap)(k:Ex->Fr->Heap->R):R:=match c with
 | .skip=>k .norm a h
 | .label _=>k .norm a h
 | .ret=>k .ret a h
 | .exit id=>k (.exit id) a h
 | .seq x y=>rec R A (.code x a h (XA rec A y k))
 | .cond c x y=>RM rec A x y a h k (a.ev c)
 | .block id b=>rec R A (.code b a h (HT id k))
 | .loop b=>rec R A (.loop b a h k)
 | .scope b=>rec R A (.code b a h k)
 | .region _ ops draw=>d90 rec A ops.toList draw a h k
 | .rangeFunc f ps assign body=>QD E rec A ps assign body a k (LI h a.ro) (a.ev f)
 |_=>A.bad
def tu:Ex->Option Code
 | .norm=>none
 | .ret=>some .ret
 | .exit id=>some (.exit id)
def Ri:Option Code->LoopState
 |none=> .ready
 |some _=> .done
def Yx(A:Alg R)(l:Nat)(k:AV->Heap->R)(e:Ex)(a:Fr)(h:Heap):R:=match a.ds with
 | []=>match h.get l with
   |some (.loop _ _ fn tm nt ps as body d)=>k (.bool (tu e).isNone) (h.put l (some (.loop (Ri (tu e)) (tu e) fn tm nt ps as body d)))
   |_=>A.bad
 |_=>A.bad
def Ql(rec:dE)(A:Alg R)(l:Nat)(body:Code)(k:AV->Heap->R)(e:Ex)(a:Fr)(h:Heap):R:=match e with
 | .norm=>match h.get l with
   |some (.loop .ready pend fn tm nt ps as b d)=>rec R A (.code body a (h.put l (some (.loop .busy pend fn tm nt ps as b d))) (Yx A l k))
   |_=>A.bad
 |_=>A.bad
def ym:List Tmp->List AV->Nat->TF->TF
 |p::ps,v::vs,nt,t=>ym ps vs nt (bif Nat.blt p nt then t.set p v else t)
 |_,_,_,t=>t
def NX(rec:dE)(A:Alg R)(l:Nat)(args:List AV)(h:Heap)(k:AV->Heap->R)(b:Option Blk):R:=match b with
 |some (.loop _ _ fn tm nt ps assign body _)=>bif Nat.beq args.length ps.size&&Nat.ble h.wm l then
  rec R A (.code assign ⟨ym ps.toList args nt tm,nt,[],fn,[],some l⟩ h (Ql rec A l body k))else A.bad
 |_=>A.bad
def KM(rec:dE)(A:Alg R)(h:Heap)(k:AV->Heap->R)(r:Res):R:=match r with
 | .val v h=>k v h
 | .need e v h=>needA A e (k v h)
 | .cho e v l h=>A.ite e (k v h) (A.amb (l.map λv=>(v,h)) λx=>k x.1 x.2)
 | .enter f args=>rec R A (.call f args h k)
 | .choice l=>A.amb l λx=>k x.1 x.2
 | .yield l args=>NX rec A l args h k (h.get l)
 | .defer _=>A.bad
 | .bad=>A.bad
def kOp(rec:dE)(A:Alg R)(all rest:List Oper)(dst:Option Tmp)(a:Fr)(k:Fr->Heap->R)(v:AV)(h:Heap):R:=rec R A (.ops all rest (a.put dst v) h k)
def ci4(rec:dE)(A:Alg R)(all rest:List Oper)(a:Fr)(h:Heap)(k:Fr->Heap->R)(e:Option SX):R:=match e with
 |some e=>A.ite e (rec R A (.ops all rest (a.cond (e,true)) h k)) (rec R A (.ops all rest (a.cond (e,false)) h k))
 |none=>A.bad
def QA(rec:dE)(A:Alg R)(all rest:List Oper)(dst:Option Tmp)(a:Fr)(h:Heap)(k:Fr->Heap->R)(r:Res):R:=match r with
 | .defer d=>match a.ro with
   |none=>rec R A (.ops all rest ((a.mark [d]).put dst .undef) h k)
   |some _=>A.bad
 |r=>KM rec A h (kOp rec A all rest dst a k) r
def dx4(E:Env)(rec:dE)(A:Alg R)(all rest:List Oper)(o:Oper)(a:Fr)(h:Heap)(k:Fr->Heap->R)(w:Option Bool):R:=match w with
 |some true=>QA rec A all rest o.dst a h k (fa E a.ev o h)
 |some false=>rec R A (.ops all rest (a.put o.dst .undef) h k)
 |none=>ci4 rec A all (o::rest) a h k (uJ all a o)
def dQ1(E:Env)(rec:dE)(A:Alg R)(all rest:List Oper)(a:Fr)(h:Heap)(k:Fr->Heap->R):R:=match rest with
 | []=>k a h
 |o::rest=>dx4 E rec A all rest o a h k (eF all a o)
def Xe(E:Env)(rec:dE)(A:Alg R)(all:List Oper)(rest:List PO)(pend:List Pend)(dst:Option Tmp)(a:Fr)(k:Fr->Heap->R)(v:AV)(h:Heap):R:=
 bif ug E (a.put dst v) h pend then rec R A (.dops all rest pend (a.put dst v) h k)else A.bad
def Nn(E:Env)(rec:dE)(A:Alg R)(all:List Oper)(x:PO)(rest:List PO)(pend:List Pend)(a:Fr)(k:Fr->Heap->R)(r:Res):R:=match r with
 | .val v h=>bif !(gz x.o)||ug E (a.put x.o.dst v) h pend then rec R A (.dops all rest (⟨x.i,x.o,v,none⟩::pend) (a.put x.o.dst v) h k)else A.bad
 | .need e v h=>bif !(gz x.o)then needA A e (rec R A (.dops all rest (⟨x.i,x.o,v,some e⟩::pend) (a.put x.o.dst v) h k))else A.bad
 |_=>A.bad
def SO(rec:dE)(A:Alg R)(all:List Oper)(rest:List PO)(pend:List Pend)(a:Fr)(h:Heap)(k:Fr->Heap->R)(e:Option SX):R:=match e with
 |some e=>A.ite e (rec R A (.dops all rest pend (a.cond (e,true)) h k)) (rec R A (.dops all rest pend (a.cond (e,false)) h k))
 |none=>A.bad
def Cj(E:Env)(rec:dE)(A:Alg R)(all:List Oper)(x:PO)(rest:List PO)(pend:List Pend)(a:Fr)(h:Heap)(k:Fr->Heap->R)(w:Option Bool):R:=match w with
 |some true=>bif x.fl then Nn E rec A all x rest pend a k (fa E a.ev x.o h)
  else KM rec A h (Xe E rec A all rest (pend.filter λp=> !(x.m.testBit p.i)) x.o.dst a k) (fa E a.ev x.o h)
 |some false=>rec R A (.dops all rest pend (a.put x.o.dst .undef) h k)
 |none=>SO rec A all (x::rest) pend a h k (uJ all a x.o)
def dx5(E:Env)(rec:dE)(A:Alg R)(all:List Oper)(rest:List PO)(pend:List Pend)(a:Fr)(h:Heap)(k:Fr->Heap->R):R:=match rest with
 | []=>k a h
 |x::rest=>Cj E rec A all x rest pend a h k (eF all a x.o)
def QN(v:AV)(h:Heap):Option (AV×Heap):=some (v,h)
def uO(wm:Nat)(o:Option (Bool×List Out))(v:AV)(h:Heap):Bool:=dw1 (zH wm h v) o
def Ut(k:AV->Heap->R)(x:AV×Heap):R:=k x.1 x.2
def cZ0(rec:dE)(A:Alg R)(f:FuncId)(args:List AV)(h:Heap)(k:AV->Heap->R)(x:Option (Bool×List Out)):R:=match x with
 |none=>A.bad
 |some (b,l)=>bif rec Bool oz (.body f args h.raise (uO h.next (some (b,l))))then Ut k (Fe b l h)else A.bad
def Sz(rec:dE)(A:Alg R)(f:FuncId)(args:List AV)(h:Heap)(k:AV->Heap->R)(x:Option (AV×Heap)):R:=match x with
 |none=>A.bad
 |some (v0,h0)=>cZ0 rec A f args h k (zH h.next h0 v0)
structure Cap2 where
 b:Nat
 full:List AV
 wide:List AV
 h:Heap
def capH(h:Heap)(b e:Nat)(cs:List AV):Heap:=((h.put b none).raise).new (.cells e 0 cs)
def Ms(args:List AV)(h:Heap):Option Cap2:=match args with
 | .us b 0 len sz:: .int k (.ofNat i)::rest=>match h.get b with
   |some (.cells e 0 cs)=>bif Nat.ble h.wm b&&Nat.beq cs.length (len*sz)&&Nat.blt i len&&Nat.blt 0 sz then
    some ⟨b,.sl b 0 len len:: .int k (.ofNat i)::rest,.us h.next 0 len sz:: .int k (.ofNat i)::rest,capH h b e (cs++dF sz [.any])⟩
    else none
   |_=>none
 |_=>none
def cZ1(rec:dE)(A:Alg R)(f:FuncId)(h:Heap)(k:AV->Heap->R)(c:Cap2)(x:Option (Bool×List Out)):R:=match x with
 |none=>A.bad
 |some (b,l)=>bif rec Bool oz (.body f c.full h.raise (uO h.next (some (b,l))))&&rec Bool oz (.body f c.wide c.h (uO h.next (some (b,l))))then
  Ut k (Fe b l (h.put c.b none))else A.bad
def ZN(rec:dE)(A:Alg R)(f:FuncId)(h:Heap)(k:AV->Heap->R)(c:Cap2)(x:Option (AV×Heap)):R:=match x with
 |none=>A.bad
 |some (v0,h0)=>cZ1 rec A f h k c (zH h.next h0 v0)
def RL(rec:dE)(A:Alg R)(f:FuncId)(args:List AV)(h:Heap)(k:AV->Heap->R)(c:Option Cap2):R:=match c with
 |none=>rec R A (.body f args h k)
 |some c=>ZN rec A f h k c (rec (Option (AV×Heap)) PV (.body f c.full h.raise QN))
def dx6(E:Env)(rec:dE)(A:Alg R)(f:FuncId)(args:List AV)(h:Heap)(k:AV->Heap->R)(x:Res):R:=match x with
 | .val v h=>k v h
 | .need e v h=>needA A e (k v h)
 |_=>bif E.amb f then Sz rec A f args h k (rec (Option (AV×Heap)) PV (.body f args h.raise QN))else
  bif E.caps f then RL rec A f args h k (Ms args h)else rec R A (.body f args h k)
def dx7(E:Env)(rec:dE)(A:Alg R)(f:FuncId)(args:List AV)(h:Heap)(k:AV->Heap->R):R:=dx6 E rec A f args h k (E.hook f args h)
def Cf(A:Alg R)(h:Heap)(k:AV->Heap->R)(vs:Option (List AV)):R:=match vs with
 |some vs=>k (SY vs) h
 |none=>A.bad
def cZ3(P:Program)(rec:dE)(A:Alg R)(rs:List ResultVar)(k:AV->Heap->R)(e:Ex)(a:Fr)(h:Heap):R:=match e with
 | .exit _=>A.bad
 |_=>match a.ds with
  | []=>Cf A h k (oY P a h rs)
  |ds=>rec R A (.leave rs a ds h k)
def Zz(P:Program)(A:Alg R)(rs:List ResultVar)(k:AV->Heap->R)(e:Ex)(a:Fr)(h:Heap):R:=match e with
 | .exit _=>A.bad
 |_=>match a.ds with
  | []=>Cf A h k (oY P a h rs)
  |_=>A.bad
def TQ(P:Program)(rec:dE)(A:Alg R)(f:FuncId)(args:List AV)(h:Heap)(k:AV->Heap->R)(fn:Option Func):R:=match fn with
 |none=>A.bad
 |some fn=>match fn.body with
  |none=>A.bad
  |some c=>bif Nat.ble (Nat.max fn.ntmps args.length) 256 then rec R A (.code c ⟨pS args 0 TF.empty,Nat.max fn.ntmps args.length,[],f,[],none⟩ h (cZ3 P rec A fn.results.toList k))else A.bad
def Qy(P:Program)(rec:dE)(A:Alg R)(f:FuncId)(args:List AV)(h:Heap)(k:AV->Heap->R)(fn:Option Func):R:=match fn with
 |none=>A.bad
 |some fn=>match fn.body with
  |none=>A.bad
  |some c=>bif Nat.ble (Nat.max fn.ntmps args.length) 256 then rec R A (.code c ⟨pS args 0 TF.empty,Nat.max fn.ntmps args.length,[],f,[],none⟩ h (Zz P A fn.results.toList k))else A.bad
def dQ3(rec:dE)(A:Alg R)(rs:List ResultVar)(a:Fr)(ds:List ADef)(k:AV->Heap->R)(_:AV)(h:Heap):R:=rec R A (.leave rs a ds h k)
def Qb(rec:dE)(A:Alg R)(rs:List ResultVar)(a:Fr)(ds:List ADef)(h:Heap)(k:AV->Heap->R)(r:Res):R:=match r with
 | .enter f args=>rec R A (.dbody f args h (dQ3 rec A rs a ds k))
 |_=>A.bad
def UV(rec:dE)(A:Alg R)(rs:List ResultVar)(a:Fr)(ds:List ADef)(b:Nat)(h:Heap)(k:AV->Heap->R)(x:Option Blk):R:=match x with
 |some (.defd false)=>bif Nat.ble h.wm b then rec R A (.leave rs a ds (h.put b (some (.defd true))) k)else A.bad
 |_=>A.bad
def d96(E:Env)(rec:dE)(A:Alg R)(rs:List ResultVar)(a:Fr)(ds:List ADef)(h:Heap)(k:AV->Heap->R):R:=match ds with
 | []=>Cf A h k (oY E.P a h rs)
 | .coll b::ds=>UV rec A rs a ds b h k (h.get b)
 | .fn f cap args::ds=>Qb rec A rs a ds h k (BX E f (args++cap) h)
def dx8(E:Env)(rec:dE)(A:Alg R)(f:FuncId)(args:List AV)(h:Heap)(k:AV->Heap->R):R:=TQ E.P rec A f args h k (E.P.funcs[f]?)
def dx9(E:Env)(rec:dE)(A:Alg R)(t:Task R):R:=match t with
 | .code c a h k=>dx3 E rec A c a h k
 | .loop c a h k=>VI rec A c a h k (E.lspec a.fn (Af c) a h)
 | .ops all rest a h k=>dQ1 E rec A all rest a h k
 | .dops all rest pend a h k=>dx5 E rec A all rest pend a h k
 | .call f args h k=>dx7 E rec A f args h k
 | .body f args h k=>dx8 E rec A f args h k
 | .dbody f args h k=>Qy E.P rec A f args h k (E.P.funcs[f]?)
 | .leave rs a ds h k=>d96 E rec A rs a ds h k
end
def ea4(R:Type)(A:Alg R)(_:Task R):R:=A.bad
def evS(E:Env)(_:Nat)(rec:dE)(R:Type)(A:Alg R)(t:Task R):R:=dx9 E rec A t
def ev(E:Env)(n:Nat):dE:=Nat.rec (motive:=λ_=>dE) ea4 (evS E) n
end
end Go.Ev
namespace Go.Ev
open Go
theorem Bn{a b c d:Prop}(f:a->c)(g:b->d)(h:a\/b):c\/d:=by
 grind
theorem gO{a b:Nat}(h:a<b):Nat.blt a b=true:=by simpa using h
theorem iE{a b:Nat}(h: ¬a<b):Nat.blt a b=false:=by
 cases e:Nat.blt a b with
 |false=>rfl
 |true=>exact absurd (by simpa using e) h
theorem dQ{a b:Nat}:Nat.blt a b=true↔a<b:=by simp
theorem Z5{a b:Nat}:Nat.ble a b=true↔a<=b:=by simp
theorem Z1{a b:Nat}:Nat.beq a b=true↔a=b:=by simp
theorem BY(i j:Nat)(hi:i<16)(hj:j<16)(α:Type)(x:α)(t:P16 α):
 (sO i).g α ((sO j).s α x t)=if i=j then x else(sO i).g α t:=by
 have hi':i=0\/i=1\/i=2\/i=3\/i=4\/i=5\/i=6\/i=7\/i=8\/i=9\/i=10\/i=11\/i=12\/i=13\/i=14\/i=15:=by omega
 have hj':j=0\/j=1\/j=2\/j=3\/j=4\/j=5\/j=6\/j=7\/j=8\/j=9\/j=10\/j=11\/j=12\/j=13\/j=14\/j=15:=by omega
 rcases hi' with rfl|rfl|rfl|rfl|rfl|rfl|rfl|rfl|rfl|rfl|rfl|rfl|rfl|rfl|rfl|rfl<;>
 rcases hj' with rfl|rfl|rfl|rfl|rfl|rfl|rfl|rfl|rfl|rfl|rfl|rfl|rfl|rfl|rfl|rfl<;>rfl
theorem Wq(i:Nat)(hi:i<16)(α:Type)(x:α):(sO i).g α (P16.const x)=x:=by
 have hi':i=0\/i=1\/i=2\/i=3\/i=4\/i=5\/i=6\/i=7\/i=8\/i=9\/i=10\/i=11\/i=12\/i=13\/i=14\/i=15:=by omega
 rcases hi' with rfl|rfl|rfl|rfl|rfl|rfl|rfl|rfl|rfl|rfl|rfl|rfl|rfl|rfl|rfl|rfl<;>rfl
theorem TF.get_empty(n:Nat):TF.get TF.empty n= .undef:=by
 unfold TF.get Dl;by_cases h:n<256
 .rw[gO h];simp[cond_true,RV,TF.empty,e30];grind[Wq]
 .rw[iE h];rfl
theorem TF.get_set(t:TF)(m n:Nat)(v:AV)(hm:m<256):(TF.set t m v).get n=if n=m then v else t.get n:=by
 unfold TF.get TF.set Dl;rw[gO hm];by_cases h:n<256
 .rw[gO h];simp[cond_true,RV];rw[BY _ _ (by omega) (by omega)];by_cases h1:n/16=m/16
  .rw[e8 h1,BY _ _ (by omega) (by omega)];by_cases h2:n % 16=m % 16
   .rw[e8 h2,e8 (by omega)]
   .rw[b9 h2,b9 (by omega),h1]
  grind
 .rw[iE h];simp[cond_false,e29];grind
theorem dy0(b b':Nat)(x:Option Blk)(t:TH):(tW b').g ((tW b).s x t)=if b'=b then(if b<65536 then x else none)else(tW b').g t:=by
 unfold tW;by_cases h:b<65536
 .rw[show(!(Nat.blt b 65536))=false by simp_all,e8 h];by_cases h':b'<65536
  .rw[show(!(Nat.blt b' 65536))=false by rw[gO h'];rfl];simp[cond_false,Rh];rw[BY _ _ (by omega) (by omega)];by_cases h1:b'/4096=b/4096
   .rw[e8 h1,BY _ _ (by omega) (by omega)];by_cases h2:b'/256 % 16=b/256 % 16
    .rw[e8 h2,BY _ _ (by omega) (by omega)];by_cases h3:b'/16 % 16=b/16 % 16
     .rw[e8 h3,BY _ _ (by omega) (by omega)];by_cases h4:b' % 16=b % 16
      .rw[e8 h4,e8 (by omega)]
      .rw[b9 h4,b9 (by omega),h1,h2,h3]
     .rw[b9 h3,b9 (by omega),h1,h2]
    .rw[b9 h2,b9 (by omega),h1]
   grind
  .rw[show(!(Nat.blt b' 65536))=true by rw[iE h'];rfl];simp[cond_true,Iu];grind
 .rw[show(!(Nat.blt b 65536))=true by rw[iE h];rfl,b9 h];simp only[cond_true,Iu];by_cases e:b'=b
  .subst e;rw[show(!(Nat.blt b' 65536))=true by rw[iE h];rfl];simp
  grind
theorem Heap.get_put(h:Heap)(b b':Nat)(x:Option Blk):(h.put b x).get b'=if b'=b then(if b<65536 then x else none)else h.get b':=by
 exact dy0 b b' x _
theorem Heap.get_new(h:Heap)(b':Nat)(x:Blk):(h.new x).get b'=if b'=h.next then(if h.next<65536 then some x else none)else h.get b':=by
 exact dy0 _ b' (some x) _
@[simp]theorem Heap.next_put(h:Heap)(b:Nat)(x:Option Blk):(h.put b x).next=h.next:=rfl
@[simp]theorem Heap.wm_put(h:Heap)(b:Nat)(x:Option Blk):(h.put b x).wm=h.wm:=rfl
@[simp]theorem Heap.next_new(h:Heap)(x:Blk):(h.new x).next=h.next+1:=rfl
@[simp]theorem Heap.wm_new(h:Heap)(x:Blk):(h.new x).wm=h.wm:=rfl
theorem Heap.get_lim(h:Heap)(b:Nat)(x:Blk)(e:h.get b=some x):b<65536:=by
 grind[Heap.get,eD,tW,Nat.blt,iE,Iu]
theorem Heap.get_empty(b:Nat):Heap.empty.get b=none:=by
 simp only[Heap.get,Heap.empty,eD,tW];by_cases hb:b<65536
 .rw[show(!(Nat.blt b 65536))=false by rw[gO hb];rfl];simp[cond_false,Rh,HK,Ks,Zk];grind[Wq]
 .rw[show(!(Nat.blt b 65536))=true by grind[iE]];rfl
structure Loc where
 blk:Nat
 off:Nat
 ext:Nat
abbrev bY:=Nat->Option Loc
structure Opq where
 v:Nat->Value
 w:Nat->Val
 f:Nat->List Val->Val
 one: ∀n,(v n).oneCell'=true
 fix:TypeId->Bool
 gh:Nat->Option Obj
noncomputable def jW(x y:List UInt8):Bool:=gC x y
def cg(op:BinOp)(k:IntKind)(x y:Int):Int:=match op with
 | .add=>k.wrap (x+y)
 | .sub=>k.wrap (x-y)
 | .mul=>k.wrap (x*y)
 | .quo=>k.wrap (x.tdiv y)
 | .rem=>x.tmod y
 | .shl=>k.wrap (x*2^(min y.toNat k.bits))
 | .shr=>x.fdiv (2^(min y.toNat k.bits))
 | .and=>k.wrap ((BitVec.ofInt k.bits x&&&BitVec.ofInt k.bits y).toNat)
 | .or=>k.wrap ((BitVec.ofInt k.bits x|||BitVec.ofInt k.bits y).toNat)
 | .xor=>k.wrap ((BitVec.ofInt k.bits x^^^BitVec.ofInt k.bits y).toNat)
 | .andNot=>k.wrap ((BitVec.ofInt k.bits x&&& ~~~(BitVec.ofInt k.bits y)).toNat)
 |_=>0
def gn(op:BinOp)(x y:Int):Bool:=match op with
 | .eql=>decide (x=y)
 | .neq=> !decide (x=y)
 | .lss=>decide (x<y)
 | .leq=>decide (x<=y)
 | .gtr=>decide (y<x)
 | .geq=>decide (y<=x)
 |_=>false
noncomputable def pz(op:BinOp)(x y:List UInt8):Bool:=match op with
 | .eql=>decide (x=y)
 | .neq=> !decide (x=y)
 | .lss=>jW x y
 | .leq=> !jW y x
 | .gtr=>jW y x
 | .geq=> !jW x y
 |_=>false
def unI(op:UnOp)(k:IntKind)(x:Int):Int:=match op with
 | .neg=>k.wrap (0-x)
 | .xor=>k.wrap ((BitVec.ofInt k.bits (if k.signed then-1 else k.max)^^^BitVec.ofInt k.bits x).toNat)
 |_=>0
def bZ(l:List Val)(i:Int)(j:Int):Val:=(l.getD i.toNat (.vl [])).toL.getD j.toNat default
def Lh(c:CT)(x y:Val):Bool:=match c with
 | .int _=>decide (x.toI=y.toI)
 | .str=>decide (x.toS=y.toS)
 | .bool=>x.toB==y.toB
def zj(r k:Val):List CT->Nat->Bool
 | [],_=>true
 |c::cs,j=>Lh c (k.toL.getD j default) (r.toL.getD j default)&&zj r k cs (j+1)
def gP(ks:List CT)(r k:Val):Bool:=zj r k ks 0
noncomputable def cA:Prim->List Val->Val
 | .ar op k,[a,b]=> .vi (cg op k a.toI b.toI)
 | .cmp op,[a,b]=> .vb (gn op a.toI b.toI)
 | .scmp op,[a,b]=> .vb (pz op a.toS b.toS)
 | .cat,[a,b]=> .vs (a.toS++b.toS)
 | .not,[a]=> .vb (!a.toB)
 | .and,[a,b]=> .vb (a.toB&&b.toB)
 | .or,[a,b]=> .vb (a.toB||b.toB)
 | .beq,[a,b]=> .vb (a.toB==b.toB)
 | .ite,[a,b,c]=>bif a.toB then b else c
 | .un op k,[a]=> .vi (unI op k a.toI)
 | .conv k,[a]=> .vi (k.wrap a.toI)
 | .slen,[a]=> .vi a.toS.length
 | .sat,[a,i]=> .vi (a.toS.getD i.toI.toNat 0).toNat
 | .ssub,[a,i,j]=> .vs ((a.toS.drop i.toI.toNat).take (j.toI-i.toI).toNat)
 | .llen,[a]=> .vi a.toL.length
 | .lget,[a,i,j]=>bZ a.toL i.toI j.toI
 | .lset,[a,i,r]=> .vl (a.toL.set i.toI.toNat r)
 | .lcat,[a,b]=> .vl (a.toL++b.toL)
 | .lsub,[a,i,j]=> .vl ((a.toL.drop i.toI.toNat).take (j.toI-i.toI).toNat)
 | .row,l=> .vl l
 | .imin,[a,b]=> .vi (min a.toI b.toI)
 | .iadd,[a,b]=> .vi (a.toI+b.toI)
 | .isub,[a,b]=> .vi (a.toI-b.toI)
 | .imax,[a,b]=> .vi (max a.toI b.toI)
 | .lrep,[n,r]=> .vl (List.replicate n.toI.toNat r)
 | .scnt,[a,c]=> .vi (AQ c.toI.toNat a.toS:Nat)
 | .sidx,[a,c]=> .vi (JR c.toI.toNat a.toS)
 | .sbytes,[a]=> .vl (a.toS.map λb=> .vl [.vi b.toNat])
 | .mfind ks,[l,k]=> .vi (l.toL.findIdx λr=>gP ks r k:Nat)
 | .mdel ks,[l,k]=> .vl (l.toL.eraseIdx (l.toL.findIdx λr=>gP ks r k))
 | .bok,[a]=> .vb (a.toL.all λr=>decide (0<=(r.toL.getD 0 default).toI)&&decide ((r.toL.getD 0 default).toI<256))
 | .bstr,[a]=> .vs (a.toL.map λr=>UInt8.ofNat (r.toL.getD 0 default).toI.toNat)
 |_,_=> .vb false
mutual
noncomputable def bU(I:Opq):SX->Val
 | .ci n=> .vi n
 | .cs l=> .vs l
 | .cb x=> .vb x
 | .va n=>I.w n
 | .op p l=>cA p (Z6 I l)
 | .app f l=>I.f f (Z6 I l)
noncomputable def Z6(I:Opq):List SX->List Val
 | []=>[]
 |a::r=>bU I a::Z6 I r
end
noncomputable def dI(I:Opq)(e:SX):Int:=(bU I e).toI
noncomputable def dS(I:Opq)(e:SX):List UInt8:=(bU I e).toS
noncomputable def dB(I:Opq)(e:SX):Bool:=(bU I e).toB
noncomputable def dL(I:Opq)(e:SX):List Val:=(bU I e).toL
def Opq.upd(I:Opq)(v0:Nat)(l:List Val):Opq:=⟨I.v,λn=>if v0<=n then l.getD (n-v0) (.vb false)else I.w n,I.f,I.one,I.fix,I.gh⟩
inductive Iter (step:List Val->Option (Nat×List Val)):List Val->Nat->List Val->Prop where
 |out {vs p:List Val} {i:Nat}:step vs=some (i+1,p)->Iter step vs i p
 |more {vs vs' p:List Val} {i:Nat}:step vs=some (0,vs')->Iter step vs' i p->Iter step vs i p
theorem Iter.uniq{step:List Val->Option (Nat×List Val)}{vs:List Val}{i j:Nat}{p q:List Val}(a:Iter step vs i p)(b:Iter step vs j q):i=j/\p=q:=by
 induction a with
 |out h=>
  cases b with
  |out h'=>grind
  |more h' _=>grind
 |more h _ ih=>
  cases b with
  |out h'=>grind
  |more h' k=>grind
open Classical in
noncomputable def cI(step:List Val->Option (Nat×List Val))(vs:List Val):Option (Nat×List Val):=
 if h: ∃r:Nat×List Val,Iter step vs r.1 r.2 then some (Classical.choose h)else none
theorem nh{step:List Val->Option (Nat×List Val)}{vs:List Val}{i:Nat}{p:List Val}:cI step vs=some (i,p)↔Iter step vs i p:=by
 unfold cI;constructor
 .intro h;split at h
  .grind
  .cases h
 .intro h;have hh: ∃r:Nat×List Val,Iter step vs r.1 r.2:=⟨(i,p),h⟩;have:=(Classical.choose_spec hh).uniq h;grind
def cr(r:Nat×List Val):Val:= .vl [.vl [.vi r.1],.vl r.2]
def iA(step:List Val->Option (Nat×List Val)):List Nat->List Val->Option (List Val)
 | [],s=>some s
 |i::r,[a,b]=>match step [a,b,.vi i]with
  |some (0,s')=>iA step r s'
  |_=>none
 |_::_,_=>none
def AA(step:List Val->Option (Nat×List Val))(n:Nat)(s:List Val)(D:List Val):Prop:=
 iA step (List.range n) s=some [.vi D.length,.vl D]/\ ∀p:List Nat,p.Perm (List.range n)-> ∃D':List Val,iA step p s=some [.vi D'.length,.vl D']/\D'.Perm D
open Classical in
mutual
noncomputable def W7:VT->Opq->Option (Nat×List Val)
 | .bad,_=>none
 | .ite e a b,I=>if dB I e then W7 a I else W7 b I
 | .need e x,I=>if dB I e then W7 x I else none
 | .ret i out,I=>some (i,Z6 I out)
 | .loop hd body ks,I=>match cI (λvs=>W7 body (I.upd hd.v0 vs)) (Z6 I hd.s0)with
   |some r=>if I.f hd.id (Z6 I (hd.s0++hd.fv))=cr r then nq ks r.1 I else none
   |none=>none
 | .both a b,I=>if W7 a I=W7 b I then W7 a I else none
 | .mloop hd l body ks,I=>if∃D,AA (λvs=>W7 body (I.upd hd.v0 vs)) (dL I l).length (Z6 I hd.s0) D/\I.f hd.id (Z6 I (hd.s0++hd.fv))=cr (0,[.vi D.length,.vl D])then nq ks 0 I else none
noncomputable def nq:List VT->Nat->Opq->Option (Nat×List Val)
 | [],_,_=>none
 |k::_,0,I=>W7 k I
 |_::r,n+1,I=>nq r n I
end
theorem ZC: ∀{a b:List UInt8},JI a b=true->a=b
 | [],[],_=>rfl
 |a::x,b::y,h=>by
  simp only[JI]at h;cases hc:Nat.beq a.toNat b.toNat with
  |false=>grind
  |true=>
   rw[hc]at h;have:a=b:=UInt8.toNat_inj.1 (by simp_all);rw[this,ZC h]
 | [],_::_,h=>by cases h
 |_::_,[],h=>by cases h
theorem d98: ∀{a b:Int},Mo a b=true->a=b
 | .ofNat a,.ofNat b,h=>by simp_all[Mo]
 | .negSucc a,.negSucc b,h=>by simp_all[Mo]
 | .ofNat _,.negSucc _,h=>by cases h
 | .negSucc _,.ofNat _,h=>by cases h
mutual
theorem SX.beq_eq: ∀(a b:SX),SX.beq a b=true->a=b
 | .ci a,b,h=>by cases b<;>simp[SX.beq]at h;rw[d98 h]
 | .cs a,b,h=>by cases b<;>simp[SX.beq]at h;rw[ZC h]
 | .cb a,b,h=>by cases b<;>simp[SX.beq]at h;rw[h]
 | .va a,b,h=>by cases b<;>simp[SX.beq]at h;rw[h]
 | .op p a,b,h=>by
   cases b<;>simp[SX.beq]at h;obtain⟨rfl,h⟩:=h;rw[SX.beqs_eq a _ h]
 | .app p a,b,h=>by
   cases b<;>simp[SX.beq]at h;obtain⟨rfl,h⟩:=h;rw[SX.beqs_eq a _ h]
theorem SX.beqs_eq: ∀(a b:List SX),SX.beqs a b=true->a=b
 | [],[],_=>rfl
 | [],_::_,h=>by simp[SX.beqs]at h
 |_::_,[],h=>by simp[SX.beqs]at h
 |a::x,b::y,h=>by
  simp[SX.beqs,j7]at h;rw[SX.beq_eq a b h.1,SX.beqs_eq x y h.2]
end
mutual
def VR(O:bY)(I:Opq):AV->Value->Prop
 | .bool b,v=>v= .bool b
 | .int k n,v=>v= .int k n
 | .str s,v=>v= .string ⟨s.toArray⟩
 | .nilp,v=>v= .pointer none
 | .ptr b o,v=> ∃L,O b=some L/\v= .pointer (some ⟨L.blk,L.off+o,none⟩)
 | .glob g,v=>v= .pointer (some ⟨g,0,none⟩)
 | .nils,v=>v= .slice none 0 0
 | .sl b o len cap,v=> ∃L,O b=some L/\v= .slice (some ⟨L.blk,L.off+o,none⟩) len cap
 | .us b o len sz,v=> ∃L cap,O b=some L/\o+cap*sz=L.ext/\v= .slice (some ⟨L.blk,L.off+o,none⟩) len cap
 | .es b o sz,v=> ∃L a cap,O b=some L/\v= .slice (some a) 0 cap/\(cap=0\/a=⟨L.blk,L.off+o,none⟩/\o+cap*sz=L.ext)
 | .es0,v=> ∃a,v= .slice (some a) 0 0
 | .nilm,v=>v= .map none
 | .map r,v=> ∃L,O r=some L/\v= .map (some L.blk)
 | .nilf,v=>v= .nilFunc
 | .func fn a b,v=>(∀l,fn≠ .yield l)/\ ∃x y,v= .func fn x y/\cj O I a x.toList/\cj O I b y.toList
 | .yield l,v=> ∃L,O l=some L/\v= .func (.yield L.blk) #[] #[]
 | .nili,v=>v= .nilIface
 | .iface t x,v=> ∃y,v= .iface t y/\VR O I x y
 | .agg cs,v=> ∃xs,v= .agg xs/\cj O I cs xs.toList
 | .tup cs,v=> ∃xs,v= .tuple xs/\cj O I cs xs.toList
 | .opq n,v=>v=I.v n
 | .oint k e,v=>v= .int k (dI I e)
 | .ostr e,v=>v= .string ⟨(dS I e).toArray⟩
 | .obool e,v=>v= .bool (dB I e)
 | .osl b off len sz,v=>(∃L cap a,O b=some L/\v= .slice (some a) (dI I len).toNat cap/\(dI I len).toNat<=cap/\(0<dI I len->a=⟨L.blk,L.off+(dI I off).toNat*sz,none⟩))\/ ∃a cap,v= .slice a 0 cap/\(a=none->cap=0)/\dI I len=0
 | .optr b idx j sz,v=> ∃L,O b=some L/\v= .pointer (some ⟨L.blk,L.off+(dI I idx).toNat*sz+j,none⟩)
 | .ous b len sz,v=>(∃L cap,O b=some L/\cap*sz=L.ext/\v= .slice (some ⟨L.blk,L.off,none⟩) (dI I len).toNat cap/\(dI I len).toNat<=cap)\/v= .slice none 0 0/\dI I len=0
 | .atl n,v=> ∃m:Int,v= .int .i64 m/\(n:Int)<=m
 | .any,_=>True
def cj(O:bY)(I:Opq):List AV->List Value->Prop
 | [],vs=>vs=[]
 |a::r,vs=> ∃v vr,vs=v::vr/\VR O I a v/\cj O I r vr
end
def Le(O ac:bY):Prop:= ∀b L,O b=some L->ac b=some L
theorem Le.refl(O:bY):Le O O:=λ_ _ h=>h
theorem Le.trans{a b c:bY}(h:Le a b)(k:Le b c):Le a c:=λx L e=>k x L (h x L e)
mutual
theorem VR.mono{O ac:bY}{I:Opq}(hl:Le O ac): ∀(a:AV) (v:Value),VR O I a v->VR ac I a v
 | .bool b,v,h=>h
 | .int k n,v,h=>h
 | .str s,v,h=>h
 | .nilp,v,h=>h
 | .ptr b o,v,h=>let ⟨L,e,x⟩:=h;⟨L,hl _ _ e,x⟩
 | .glob g,v,h=>h
 | .nils,v,h=>h
 | .sl b o len cap,v,h=>let ⟨L,e,x⟩:=h;⟨L,hl _ _ e,x⟩
 | .us b o len sz,v,h=>let ⟨L,c,e,x⟩:=h;⟨L,c,hl _ _ e,x⟩
 | .es b o sz,v,h=>let ⟨L,a,c,e,x⟩:=h;⟨L,a,c,hl _ _ e,x⟩
 | .es0,v,h=>h
 | .nilm,v,h=>h
 | .map r,v,h=>let ⟨L,e,x⟩:=h;⟨L,hl _ _ e,x⟩
 | .nilf,v,h=>h
 | .func fn a b,v,h=>let ⟨n,x,y,e,p,q⟩:=h;⟨n,x,y,e,cj.mono hl a _ p,cj.mono hl b _ q⟩
 | .yield l,v,h=>let ⟨L,e,x⟩:=h;⟨L,hl _ _ e,x⟩
 | .nili,v,h=>h
 | .iface t x,v,h=>let ⟨y,e,p⟩:=h;⟨y,e,VR.mono hl x y p⟩
 | .agg cs,v,h=>let ⟨xs,e,p⟩:=h;⟨xs,e,cj.mono hl cs _ p⟩
 | .tup cs,v,h=>let ⟨xs,e,p⟩:=h;⟨xs,e,cj.mono hl cs _ p⟩
 | .opq n,v,h=>h
 | .oint k n,v,h=>h
 | .ostr n,v,h=>h
 | .obool e,v,h=>h
 | .osl b off len sz,v,h=>Bn (λ⟨L,c,a,e,x⟩=>⟨L,c,a,hl _ _ e,x⟩) id h
 | .optr b idx j sz,v,h=>let ⟨L,e,x⟩:=h;⟨L,hl _ _ e,x⟩
 | .ous b len sz,v,h=>Bn (λ⟨L,c,e,x⟩=>⟨L,c,hl _ _ e,x⟩) id h
 | .atl n,v,h=>h
 | .any,v,h=>h
theorem cj.mono{O ac:bY}{I:Opq}(hl:Le O ac): ∀(a:List AV) (v:List Value),cj O I a v->cj ac I a v
 | [],vs,h=>h
 |a::r,vs,h=>let ⟨v,vr,e,p,q⟩:=h;⟨v,vr,e,VR.mono hl a v p,cj.mono hl r vr q⟩
end
theorem cj.length{O:bY}{I:Opq}: ∀{a:List AV} {v:List Value},cj O I a v->v.length=a.length
 | [],_,h=>by rw[h];rfl
 |_::r,_,⟨v,vr,e,_,q⟩=>by rw[e];simp[cj.length q]
theorem cj.cons{O:bY}{I:Opq}{a:AV}{r:List AV}{v:Value}{vr:List Value}(h:VR O I a v)(k:cj O I r vr):cj O I (a::r) (v::vr):=⟨v,vr,rfl,h,k⟩
theorem cj.nil{O:bY}{I:Opq}:cj O I [] []:=rfl
theorem cj.one{O:bY}{I:Opq}{a:AV}{v:Value}(h:VR O I a v):cj O I [a] [v]:= .cons h .nil
theorem cj.append{O:bY}{I:Opq}: ∀{a b:List AV} {v u:List Value},cj O I a v->cj O I b u->cj O I (a++b) (v++u)
 | [],_,_,_,h,k=>by rw[h];exact k
 |_::_,_,_,_,⟨v,vr,e,p,q⟩,k=>by rw[e];exact .cons p (cj.append q k)
theorem cj.drop{O:bY}{I:Opq}: ∀(n:Nat) {a:List AV} {v:List Value},cj O I a v->cj O I (a.drop n) (v.drop n)
 |0,_,_,h=>h
 |n+1,[],_,h=>by rw[h];exact .nil
 |n+1,_::_,_,⟨v,vr,e,p,q⟩=>by rw[e];exact cj.drop n q
theorem cj.take{O:bY}{I:Opq}: ∀(n:Nat) {a:List AV} {v:List Value},cj O I a v->cj O I (a.take n) (v.take n)
 |0,_,_,h=>by exact .nil
 |n+1,[],_,h=>by rw[h];exact .nil
 |n+1,_::_,_,⟨v,vr,e,p,q⟩=>by rw[e];exact .cons p (cj.take n q)
theorem cj.get{O:bY}{I:Opq}: ∀{a:List AV} {v:List Value} (i:Nat) (x:AV),cj O I a v->a[i]? =some x-> ∃y,v[i]? =some y/\VR O I x y
 | [],_,i,x,h,e=>by simp at e
 |a::r,_,0,x,⟨v,vr,e',p,q⟩,e=>by simp at e;subst e;exact⟨v,by rw[e'];rfl,p⟩
 |a::r,_,i+1,x,⟨v,vr,e',p,q⟩,e=>by
  obtain⟨y,hy,z⟩:=cj.get i x q e;exact⟨y,by rw[e'];simpa using hy,z⟩
theorem VR.one{O:bY}{I:Opq}{a:AV}{v:Value}(h:VR O I a v)(ho:a.one=true):v.oneCell'=true:=by
 cases a<;>simp only[VR,AV.one]at h ho<;>first
  |(rcases h with⟨L,c,a,_,rfl,_⟩|⟨rfl,_⟩<;>rfl)
  |(rcases h with⟨L,c,a,_,rfl,_⟩|⟨a,c,rfl,_⟩<;>rfl)
  |(rcases h with⟨L,c,_,_,rfl,_⟩|⟨rfl,_⟩<;>rfl)
  |(subst h;rfl)
  |(obtain⟨L,_,rfl⟩:=h;rfl)
  |(obtain⟨L,c,_,_,rfl⟩:=h;rfl)
  |(obtain⟨L,a,c,_,rfl,_⟩:=h;rfl)
  |(obtain⟨a,rfl⟩:=h;rfl)
  |(obtain⟨m,rfl,_⟩:=h;rfl)
  |(obtain⟨_,x,y,rfl,_⟩:=h;rfl)
  |(obtain⟨y,rfl,_⟩:=h;rfl)
  |(subst h;exact I.one _)
  |simp at ho
theorem AV.one_A{a:AV}(h:a.one=true):a.oneA=true:=by cases a<;>first|rfl|cases h
theorem qB{l:List AV}(h:l.all AV.one=true):l.all AV.oneA=true:=k6.2 λx hx=>AV.one_A (k6.1 h x hx)
theorem VR.cells{O:bY}{I:Opq}{a:AV}{v:Value}(h:VR O I a v)(ht:a.nt=true):cj O I a.cells v.cells.toList:=by
 cases a with
 |agg cs=>obtain⟨xs,rfl,p⟩:=h;exact p
 |tup vs=>cases ht
 |any=>cases ht
 |func fn x y=>obtain⟨n,a,b,rfl,p,q⟩:=h;exact .one ⟨n,a,b,rfl,p,q⟩
 |iface t x=>obtain⟨y,rfl,p⟩:=h;exact .one ⟨y,rfl,p⟩
 |opq n=>
  have h1:=VR.one h rfl;have:v.cells= #[v]:=by cases v<;>first|rfl|grind[Value.oneCell']
  rw[this];exact .one h
 |_=>
  have h1:=VR.one h rfl;have:v.cells= #[v]:=by cases v<;>first|rfl|grind[Value.oneCell']
  rw[this];exact .one h
theorem ZH{O:bY}{I:Opq}{v:Value}{a:AV}(h:xu v=some a):VR O I a v:=by
 unfold xu at h;split at h<;>first
  |(grind[Option.some.injEq,VR])
  |simp at h
theorem c55{v:Value}{a:AV}(h:xu v=some a):a.one=true:=by
 unfold xu at h;split at h<;>first
  |(simp only[j0]at h;subst h;rfl)
  |simp at h
theorem b97{O:bY}{I:Opq}: ∀{l:List Value} {cs:List AV},l.mapM xu=some cs->cj O I cs l
 | [],cs,h=>by simp at h;subst h;rfl
 |v::r,cs,h=>by
  simp[M7,Option.bind_eq_bind,m7,Option.pure_def,j0]at h;obtain⟨a,ha,b,hb,rfl⟩:=h;exact .cons (ZH ha) (b97 hb)
theorem sB{O:bY}{I:Opq}{v:Value}{a:AV}(h:yI v=some a):VR O I a v:=by
 unfold yI at h;split at h
 .simp at h;obtain⟨cs,hc,rfl⟩:=h;exact⟨_,rfl,b97 hc⟩
 .split at h
  .rename_i vs l e;simp at h;subst h;exact⟨vs,rfl,e⟩
  .cases h
 .exact ZH h
inductive ERs (O:bY) (I:Opq):List Ent->List MapEntry->Prop where
 |nil:ERs O I [] []
 |cons {e:Ent} {r:List Ent} {k v:Value} {m:List MapEntry}:VR O I e.key k->VR O I e.val v->ERs O I r m->ERs O I (e::r) (⟨k,v,e.born⟩::m)
theorem ERs.mono{O ac:bY}{I:Opq}(hl:Le O ac){a:List Ent}{m:List MapEntry}(h:ERs O I a m):ERs ac I a m:=by
 induction h with
 |nil=>exact .nil
 |cons p q _ ih=>exact .cons (VR.mono hl _ _ p) (VR.mono hl _ _ q) ih
theorem ERs.length{O:bY}{I:Opq}{a:List Ent}{m:List MapEntry}(h:ERs O I a m):m.length=a.length:=by
 induction h with
 |nil=>rfl
 |cons _ _ _ ih=>simp[ih]
def TR(O:bY)(I:Opq)(t:TF)(nt:Nat)(tmps:Array Value):Prop:=tmps.size=nt/\nt<=256/\ ∀n,VR O I (t.get n) (tmps.getD n Go.undef)
theorem TR.mono{O ac:bY}{I:Opq}(hl:Le O ac){t:TF}{nt:Nat}{tmps:Array Value}(h:TR O I t nt tmps):TR ac I t nt tmps:=
 ⟨h.1,h.2.1,λn=>VR.mono hl _ _ (h.2.2 n)⟩
def IR(O:bY):Option Nat->Option Nat->Prop
 |none,m=>m=none
 |some r,m=> ∃L,O r=some L/\m=some L.blk
theorem IR.mono{O ac:bY}(hl:Le O ac){a b:Option Nat}(h:IR O a b):IR ac a b:=by
 cases a with
 |none=>exact h
 |some r=>obtain⟨L,e,x⟩:=h;exact⟨L,hl _ _ e,x⟩
def gr(c:CT)(x:Val):Value:=match c with
 | .int k=> .int k x.toI
 | .str=> .string ⟨x.toS.toArray⟩
 | .bool=> .bool x.toB
def dG(sig:List CT)(r:Val):List Value:=(List.range sig.length).map λj=>gr (sig.getD j .bool) (r.toL.getD j default)
def cE(sig:List CT)(l:List Val):List Value:=l.flatMap (dG sig)
def kD:List Value->Value
 | [v]=>v
 |vs=> .agg vs.toArray
def qi(ks vs:List CT)(r:Val):Value×Value:=(kD ((dG (ks++vs) r).take ks.length),kD ((dG (ks++vs) r).drop ks.length))
def gH(d:Bool)(E:List MapEntry)(c:Nat):Prop:=(E.map (·.born)).Pairwise (· < ·)/\(∀e∈E,e.born<c)/\(d=true->E.map (·.born)=List.range c)
theorem gH.nil(c:Nat):gH (Nat.beq c 0) [] c:=by
 refine⟨.nil,λ_ h=>(by cases h),λh=> ?_⟩;simp_all
theorem gH.weak{d d':Bool}{E:List MapEntry}{c:Nat}(h:gH d' E c)(hd:(!d||d')=true):gH d E c:=⟨h.1,h.2.1,λe=>h.2.2 (by grind)⟩
def BR(O:bY)(I:Opq)(L:Loc)(o:Option Obj):Blk->Prop
 | .cells e fz cs=> ∃C lo hi vs,o=some (.cells C e (lo,hi))/\L.off+L.ext<=C.size/\cs.length<=L.ext/\cs.all AV.oneA=true/\cj O I cs vs/\
  (∀i,i<cs.length->C[L.off+i]? =vs[i]?)/\(∀i,fz<=i->i<L.ext-> ¬(lo<=L.off+i/\L.off+i<hi))/\(I.fix e=true->L.off=0)
 | .arr e sig l=> ∃C e' lo hi,o=some (.cells C e' (lo,hi))/\(e'=e\/e=iD)/\L.off+L.ext<=C.size/\(dL I l).length*sig.length<=L.ext/\
  (∀i v,(cE sig (dL I l))[i]? =some v->C[L.off+i]? =some v)/\(∀i,i<L.ext-> ¬(lo<=L.off+i/\L.off+i<hi))
 | .map es c=> ∃E,o=some (.map E c)/\ERs O I es E.toList
 | .marr d ks vs l=> ∃E c,o=some (.map E c)/\(E.toList.map λe=>(e.key,e.val))=(dL I l).map (qi ks vs)/\gH d E.toList c
 | .bag e sig l=> ∃D:List Val,D.Perm (dL I l)/\ ∃C e' lo hi,o=some (.cells C e' (lo,hi))/\(e'=e\/e=iD)/\L.off+L.ext<=C.size/\D.length*sig.length<=L.ext/\
  (∀i v,(cE sig D)[i]? =some v->C[L.off+i]? =some v)/\(∀i,i<L.ext-> ¬(lo<=L.off+i/\L.off+i<hi))
 | .mrg it d ks vs l=> ∃E c Li,o=some (.map E c)/\O it=some Li/\Li.ext=c/\(E.toList.map λe=>(e.key,e.val))=(dL I l).map (qi ks vs)/\gH d E.toList c
 | .vec cs=> ∃C e lo hi vs,o=some (.cells C e (lo,hi))/\cj O I cs vs/\ ∀i,i<cs.length->C[L.off+i]? =vs[i]?
 | .mit m=>L.off=0/\ ∃Lm,O m=some Lm/\o=some (.mapIter (some Lm.blk) L.ext #[] L.ext)
 | .strIter s pos=>L.off=0/\o=some (.stringIter ⟨s.toArray⟩ pos)
 | .mapIter m since seen last=>L.off=0/\ ∃m',o=some (.mapIter m' since seen.toArray last)/\IR O m m'
 | .loop st pend fn tm nt ps as body d=> ∃tmps f' Ld,o=some (.loop {state:=st,pending:=pend,fn:=f',tmps:=tmps,params:=ps,assign:=as,body:=body,defers:=Ld.blk})/\O d=some Ld/\TR O I tm nt tmps
 | .defd taken=>o=some (.deferred (if taken then none else some []))
theorem BR.mono{O ac:bY}{I:Opq}(hl:Le O ac){L:Loc}{o:Option Obj}{x:Blk}(h:BR O I L o x):BR ac I L o x:=by
 cases x with
 |cells e fz cs=>obtain⟨C,lo,hi,vs,h1,h2,h3,h4,h5,h6⟩:=h;exact⟨C,lo,hi,vs,h1,h2,h3,h4,cj.mono hl _ _ h5,h6⟩
 |arr e sig l=>exact h
 |map es c=>obtain⟨E,h1,h2⟩:=h;exact⟨E,h1,h2.mono hl⟩
 |marr d ks vs l=>exact h
 |bag e sig l=>exact h
 |mrg it d ks vs l=>obtain⟨E,c,Li,h1,h2,h3⟩:=h;exact⟨E,c,Li,h1,hl _ _ h2,h3⟩
 |mit m=>obtain⟨h0,Lm,h1,h2⟩:=h;exact⟨h0,Lm,hl _ _ h1,h2⟩
 |vec cs=>obtain⟨C,e,lo,hi,vs,h1,h2,h3⟩:=h;exact⟨C,e,lo,hi,vs,h1,cj.mono hl _ _ h2,h3⟩
 |strIter s pos=>exact h
 |mapIter m since seen last=>obtain⟨h0,m',h1,h2⟩:=h;exact⟨h0,m',h1,h2.mono hl⟩
 |loop st pend fn tm nt ps as body d=>obtain⟨tmps,f',Ld,h1,h2,h3⟩:=h;exact⟨tmps,f',Ld,h1,hl _ _ h2,h3.mono hl⟩
 |defd t=>exact h
def Blk.isArr:Blk->Bool
 | .arr _ _ _=>true
 | .bag _ _ _=>true
 | .vec _=>true
 |_=>false
structure HR (O:bY) (I:Opq) (K:Nat->Prop) (w0:World) (h:Heap) (w:World):Prop where
 blk: ∀b x L,h.get b=some x->O b=some L->BR O I L w.heap[L.blk]? x
 sep: ∀b b' x x' L L',h.get b=some x->h.get b'=some x'->O b=some L->O b'=some L'->b≠b'->h.wm<=b\/h.wm<=b'\/x.isArr=false\/x'.isArr=false->L.blk≠L'.blk
 fresh: ∀b,h.next<=b->O b=none
 fget: ∀b,h.next<=b->h.get b=none
 lt: ∀b L,O b=some L->L.blk<w.heap.size
 kin: ∀i,K i->i<w0.heap.size
 keep: ∀i,K i->w.heap[i]? =w0.heap[i]?
 free: ∀b x L,h.get b=some x->h.wm<=b->O b=some L-> ¬K L.blk
 size:w0.heap.size<=w.heap.size
 os:w.os=w0.os
 tape:w.tape=w0.tape
 out:w.output=w0.output
 dr:w0.drawn<=w.drawn
inductive RowB:Option Blk->Prop where
 |arr (e:TypeId) (sig:List CT) (l:SX):RowB (some (.arr e sig l))
 |bag (e:TypeId) (sig:List CT) (l:SX):RowB (some (.bag e sig l))
theorem RowB.of{x:Option Blk}{e:TypeId}{sig:List CT}{l:SX}(h:x=some (.arr e sig l)):RowB x:=h▸ .arr e sig l
structure St (h:Heap) (O:bY) (h':Heap) (ac:bY):Prop where
 le:h.next<=h'.next
 ext: ∀b,b<h.next->ac b=O b
 unm: ∀b,b<h.next->O b=none->h'.get b=h.get b\/h'.get b=none\/RowB (h.get b)
 wm:h'.wm=h.wm
theorem St.refl(h:Heap)(O:bY):St h O h O:=⟨i6 _,λ_ _=>rfl,λ_ _ _=> .inl rfl,rfl⟩
theorem St.trans{h h' h'':Heap}{O ac am:bY}(s:St h O h' ac)(t:St h' ac h'' am):St h O h'' am:=
 ⟨n7 s.le t.le,λb hb=>(t.ext b (x6 hb s.le)).trans (s.ext b hb),
  λb hb hn=>by
   rcases t.unm b (x6 hb s.le) ((s.ext b hb).trans hn)with h1|h1|h1
   .rcases s.unm b hb hn with h2|h2|h2
    .exact .inl (h1.trans h2)
    .exact .inr (.inl (h1.trans h2))
    grind
   .grind
   .rcases s.unm b hb hn with h2|h2|h2
    .exact .inr (.inr (h2▸h1))
    .rw[h2]at h1;cases h1
    grind,t.wm.trans s.wm⟩
theorem St.Le{O:bY}{I:Opq}{K:Nat->Prop}{w0 w:World}{h h':Heap}{ac:bY}(s:St h O h' ac)(r:HR O I K w0 h w):Le O ac:=by
 intro b L e;rw[s.ext b]
 .exact e
 .rcases k5 b h.next with hb|hb
  .exact hb
  .rw[r.fresh b hb]at e;cases e
theorem HR.drew{O:bY}{I:Opq}{K:Nat->Prop}{w0 w:World}{h:Heap}(r:HR O I K w0 h w):HR O I K w0 h w.drew:=
 ⟨r.blk,r.sep,r.fresh,r.fget,r.lt,r.kin,r.keep,r.free,r.size,r.os,r.tape,r.out,M8 r.dr⟩
def bY.add(O:bY)(n:Nat)(L:Loc):bY:=λb=>if b=n then some L else O b
theorem HR.new{O:bY}{I:Opq}{K:Nat->Prop}{w0 w:World}{h:Heap}(r:HR O I K w0 h w)(o:Obj)(x:Blk)(off ext:Nat)
 (hx:BR (O.add h.next ⟨w.heap.size,off,ext⟩) I ⟨w.heap.size,off,ext⟩ (some o) x):
 HR (O.add h.next ⟨w.heap.size,off,ext⟩) I K w0 (h.new x) (w.alloc o)/\St h O (h.new x) (O.add h.next ⟨w.heap.size,off,ext⟩):=by
 have hst:St h O (h.new x) (O.add h.next ⟨w.heap.size,off,ext⟩):=by
  refine⟨by simp,λb hb=> ?_,λb hb _=> ?_,rfl⟩
  .simp only[bY.add];grind
  .left;rw[Heap.get_new,b9 (by omega)]
 have hle:=hst.Le r;have hold: ∀i,i<w.heap.size->(w.alloc o).heap[i]? =w.heap[i]? :=λi hi=>RowKit.Below.heap_alloc _ _ _ hi
 have iY:(w.alloc o).heap[w.heap.size]? =some o:=by show(w.heap.push o)[w.heap.size]? =_;simp
 refine⟨⟨?_,?_,?_,?_,?_,r.kin,?_,?_,?_,r.os,r.tape,r.out,r.dr⟩,hst⟩
 .intro b y L hg hb;rw[Heap.get_new]at hg;by_cases e:b=h.next
  .subst e;rw[e8 rfl]at hg;split at hg
   .simp only[j0]at hg;subst hg;simp only[bY.add,if_true,j0]at hb;subst hb;rw[iY];exact hx
   grind
  .rw[b9 e]at hg;simp only[bY.add,b9 e]at hb;rw[hold _ (r.lt b L hb)];exact(r.blk b y L hg hb).mono hle
 .intro b b' y y' L L' hg hg' hb hb' hne hw;rw[Heap.get_new]at hg hg';by_cases e:b=h.next
  .by_cases e':b'=h.next
   .omega
   .subst e;simp only[bY.add,if_true,j0]at hb;subst hb;simp only[bY.add,b9 e']at hb';exact Nat.ne_of_gt (r.lt b' L' hb')
  .simp only[bY.add,b9 e]at hb;rw[b9 e]at hg;by_cases e':b'=h.next
   .subst e';simp only[bY.add,if_true,j0]at hb';subst hb';exact P8 (r.lt b L hb)
   .simp only[bY.add,b9 e']at hb';rw[b9 e']at hg';exact r.sep b b' y y' L L' hg hg' hb hb' hne hw
 .intro b hb;simp only[Heap.next_new]at hb;simp only[bY.add];rw[b9 (by omega)];exact r.fresh b (by omega)
 .intro b hb;simp only[Heap.next_new]at hb;rw[Heap.get_new,b9 (by omega)];exact r.fget b (by omega)
 .intro b L hb;rw[World.size_alloc];simp only[bY.add]at hb;split at hb
  .grind
  .exact P9 (r.lt b L hb)
 .intro i hi;rw[hold i (x6 (r.kin i hi) r.size)];exact r.keep i hi
 .intro b y L hg hw hb;rw[Heap.get_new]at hg;by_cases e:b=h.next
  .subst e;simp only[bY.add,if_true,j0]at hb;subst hb;intro hk;exact absurd (r.kin _ hk) (D8.2 r.size)
  .rw[b9 e]at hg;simp only[bY.add,b9 e]at hb;exact r.free b y L hg hw hb
 .rw[World.size_alloc];exact M8 r.size
theorem HR.upd{O:bY}{I:Opq}{K:Nat->Prop}{w0 w w':World}{h:Heap}(r:HR O I K w0 h w)(b:Nat)(x0 x:Blk)(L:Loc)
 (hg:h.get b=some x0) (hb:O b=some L) (hwm:h.wm<=b)
 (hother: ∀i,i≠L.blk->w'.heap[i]? =w.heap[i]?) (hsz:w'.heap.size=w.heap.size) (hos:w'.os=w.os) (htp:w'.tape=w.tape) (hout:w'.output=w.output) (hdr:w'.drawn=w.drawn)
 (hx:BR O I L w'.heap[L.blk]? x):HR O I K w0 (h.put b (some x)) w'/\St h O (h.put b (some x)) O:=by
 refine⟨⟨?_,?_,r.fresh,?_,?_,r.kin,?_,?_,?_,hos.trans r.os,htp.trans r.tape,hout.trans r.out,by rw[hdr];exact r.dr⟩,⟨i6 _,λ_ _=>rfl,?_,rfl⟩⟩
 .intro b' y L' hg' hb';rw[Heap.get_put]at hg';by_cases e:b'=b
  .grind
  .rw[b9 e]at hg';rw[hother _ (r.sep b' b y x0 L' L hg' hg hb' hb e (.inr (.inl hwm)))];exact r.blk b' y L' hg' hb'
 .intro b1 b2 y y' L1 L2 h1 h2 h3 h4 hne hw;rw[Heap.get_put]at h1 h2;by_cases e1:b1=b
  .subst e1;rw[b9 (Ne.symm hne)]at h2;exact r.sep b1 b2 x0 y' L1 L2 hg h2 h3 h4 hne (.inl hwm)
  .rw[b9 e1]at h1;by_cases e2:b2=b
   .subst e2;exact r.sep b1 b2 y x0 L1 L2 h1 hg h3 h4 hne (.inr (.inl hwm))
   .rw[b9 e2]at h2;exact r.sep b1 b2 y y' L1 L2 h1 h2 h3 h4 hne hw
 .intro b' hb';rw[Heap.get_put];by_cases e:b'=b
  .subst e;rw[r.fget b' hb']at hg;cases hg
  .rw[b9 e];exact r.fget b' hb'
 .intro b' L' hb';rw[hsz];exact r.lt b' L' hb'
 .intro i hi;rw[hother i (λe=>r.free b x0 L hg hwm hb (e▸hi))];exact r.keep i hi
 .intro b' y L' hg' hw' hb';rw[Heap.get_put]at hg';by_cases e:b'=b
  .subst e;exact r.free b' x0 L' hg hw' hb'
  .rw[b9 e]at hg';exact r.free b' y L' hg' hw' hb'
 .rw[hsz];exact r.size
 .intro b' _ hn;left;rw[Heap.get_put,b9];grind
theorem HR.drop{O:bY}{I:Opq}{K:Nat->Prop}{w0 w:World}{h:Heap}(r:HR O I K w0 h w)(b:Nat):
 HR O I K w0 (h.put b none) w/\St h O (h.put b none) O:=by
 have hg: ∀b' y,(h.put b none).get b'=some y->b'≠b/\h.get b'=some y:=by
  intro b' y hg;rw[Heap.get_put]at hg;by_cases e:b'=b
  .rw[e8 e]at hg;split at hg<;>cases hg
  .rw[b9 e]at hg;exact⟨e,hg⟩
 refine⟨⟨λb' y L' h1=>r.blk b' y L' (hg _ _ h1).2,λb1 b2 y y' L1 L2 h1 h2=>r.sep b1 b2 y y' L1 L2 (hg _ _ h1).2 (hg _ _ h2).2,r.fresh,?_,r.lt,r.kin,r.keep,
  λb' y L' h1=>r.free b' y L' (hg _ _ h1).2,r.size,r.os,r.tape,r.out,r.dr⟩,⟨i6 _,λ_ _=>rfl,?_,rfl⟩⟩
 .intro b' hb';rw[Heap.get_put];split
  .split<;>rfl
  .exact r.fget b' hb'
 .intro b' _ _;rw[Heap.get_put];by_cases e:b'=b
  .right;left;rw[e8 e];split<;>rfl
  .left;rw[b9 e]
theorem HR.kill{O:bY}{I:Opq}{K:Nat->Prop}{w0 w:World}{h:Heap}(r:HR O I K w0 h w)(b:Nat)(L:Loc)(hb:O b=some L):
 HR O I K w0 (h.put b none) w/\St h O (h.put b none) O:=r.drop b
theorem HR.retell{O:bY}{I:Opq}{K:Nat->Prop}{w0 w:World}{h:Heap}{b:Nat}{x y:Blk}(r:HR O I K w0 h w)(hg:h.get b=some x)(hk:h.wm<=b\/x.isArr=false)(hbr: ∀L,O b=some L->BR O I L w.heap[L.blk]? x->BR O I L w.heap[L.blk]? y){h2:Heap}(h2n:h2.next=h.next)(h2w:h2.wm=h.wm)
 (h2g: ∀z,h2.get z=if z=b then some y else h.get z):HR O I K w0 h2 w:=by
 have key: ∀z u,h2.get z=some u-> ∃v,h.get z=some v/\(∀L,O z=some L->BR O I L w.heap[L.blk]? v->BR O I L w.heap[L.blk]? u)/\(h.wm<=z\/v.isArr=false\/v=u):=by
  grind
 refine⟨λx y L hy hL=> ?_,λx x' y y' L L' hy hy' hL hL' hne hw=> ?_,λx hx=>r.fresh x (by omega),λx hx=> ?_,r.lt,r.kin,r.keep,λx y L hy hw hL=> ?_,r.size,r.os,r.tape,r.out,r.dr⟩
 .obtain⟨z,z1,z2,_⟩:=key x y hy;exact z2 L hL (r.blk x z L z1 hL)
 .obtain⟨z,z1,_,z3⟩:=key x y hy;obtain⟨z',z1',_,z3'⟩:=key x' y' hy';refine r.sep x x' z z' L L' z1 z1' hL hL' hne ?_;grind
 .have:=r.fget x (by rw[<-h2n];exact hx);grind
 .obtain⟨z,z1,_⟩:=key x y hy;exact r.free x z L z1 (by omega) hL
end Go.Ev
