import GoSem.Step
import Derived.RangeFuncLeaves
import Derived.WalkKit
set_option linter.unusedSimpArgs false
set_option linter.unusedVariables false
namespace Go.Ev
open Go
abbrev b9:=@if_neg
abbrev c9:=@decide_eq_true
abbrev e8:=@if_pos
abbrev e9:=@Nat.le_refl
abbrev i6:=@decide_eq_false
abbrev j0:=@Option.some.injEq
abbrev j5:=@of_decide_eq_true
abbrev j6:=@Bool.and_eq_true
abbrev j7:=@List.mem_map
abbrev j8:=@List.getD_eq_getElem?_getD
abbrev j9:=@Nat.lt_or_ge
abbrev k5:=@List.length_append
abbrev k6:=@List.length_map
abbrev k8:=@List.all_eq_true
abbrev l5:=@List.length_take
abbrev l6:=@List.mem_filter
abbrev l7:=@List.getElem?_eq_getElem
abbrev l9:=@List.map_cons
abbrev m7:=@Nat.le_trans
abbrev m8:=@List.mem_cons
abbrev m9:=@Nat.zero_add
abbrev n5:=@List.mem_singleton
abbrev n7:=@List.map_map
abbrev n8:=@List.map_append
abbrev o7:=@List.getElem?_append_right
abbrev o8:=@Option.bind_eq_some_iff
abbrev o9:=@Option.map_eq_some_iff
abbrev r9:=@List.mem_range
abbrev s6:=@Bool.false_eq_true
abbrev s7:=@Nat.zero_le
abbrev s8:=@List.append_nil
abbrev s9:=@List.map_congr_left
abbrev t7:=@List.getElem?_eq_none
abbrev t8:=@List.take_append_drop
abbrev u9:=@Bool.or_eq_true
abbrev x5:=@Int.le_refl
abbrev x6:=@List.getElem?_append_left
abbrev x7:=@Array.getD_eq_getD_getElem?
abbrev x8:=@Nat.add_mul
abbrev x9:=@Nat.lt_of_lt_of_le
abbrev y5:=@Nat.add_assoc
abbrev y6:=@Bool.not_eq_true'
abbrev y7:=@List.mem_cons_of_mem
abbrev z8:=@List.mem_append
abbrev A0:=@List.filter_cons
abbrev A1:=@Nat.mul_le_mul_right
abbrev A2:=@Array.getElem?_eq_getElem
abbrev A3:=@Prod.mk.injEq
abbrev A4:=@List.getElem?_eq_some_iff
abbrev A5:=@List.append_assoc
abbrev A6:=@List.pairwise_cons
abbrev A7:=@List.find?_eq_none
abbrev A8:=@List.take_length
abbrev A9:=@Bool.true_and
abbrev B0:=@List.getElem?_map
abbrev B1:=@Nat.min_eq_left
abbrev B2:=@Bool.false_or
abbrev B3:=@List.getElem_of_mem
abbrev B4:=@List.length_eq_zero_iff
abbrev B5:=@List.getElem_mem
abbrev B6:=@Bool.not_eq_true
abbrev B7:=@List.flatMap_cons
abbrev B8:=@List.mem_cons_self
abbrev B9:=@List.nodup_iff_pairwise_ne
abbrev C0:=@Bool.eq_iff_iff
abbrev C1:=@List.eq_nil_of_length_eq_zero
abbrev C3:=@List.getElem?_take
abbrev C4:=@Prod.ext
abbrev C5:=@List.filter_append
abbrev C6:=@List.getD_cons_zero
abbrev C7:=@List.getD_cons_succ
abbrev C8:=@Nat.not_lt
abbrev C9:=@List.all_append
abbrev D6:=@List.getElem?_drop
abbrev D7:=@List.mem_flatMap
abbrev D8:=@List.length_set
abbrev E4:=@Array.getElem?_eq_none
abbrev E5:=@Bool.and_true
abbrev E6:=@Nat.le_add_right
abbrev E7:=@List.not_mem_nil
abbrev E8:=@Nat.add_comm
abbrev E9:=@Bool.not_true
abbrev F5:=@Nat.le_of_mul_le_mul_right
abbrev F6:=@List.any_eq_false
abbrev F7:=@List.nodup_cons
abbrev F8:=@Int.not_lt
abbrev F9:=@Int.add_mul
abbrev G0:=@List.range'_succ
abbrev G1:=@Nat.one_mul
abbrev G2:=@Bool.false_and
abbrev G3:=@Int.mul_comm
abbrev G4:=@Int.mul_le_mul_of_nonneg_right
abbrev G5:=@List.map_id
abbrev G6:=@List.pairwise_map
abbrev G7:=@List.Pairwise.imp
abbrev G8:=@Nat.not_lt_zero
abbrev G9:=@Nat.lt_trichotomy
abbrev I0:=@List.mem_of_mem_take
abbrev I1:=@List.mem_of_getElem?
abbrev I2:=@List.take_left
abbrev I3:=@List.drop_left
abbrev I4:=@Nat.add_sub_cancel_left
abbrev I5:=@List.take_of_length_le
abbrev I6:=@List.any_eq_true
abbrev I7:=@List.mem_append_left
abbrev I8:=@List.perm_ext_iff_of_nodup
abbrev I9:=@Int.emod_nonneg
abbrev J0:=@Int.emod_lt_of_pos
abbrev J1:=@Int.mul_nonneg
abbrev J2:=@Int.sub_mul
abbrev J3:=@List.getElem_map
abbrev J4:=@List.forIn_cons
abbrev J5:=@List.ext_getElem
abbrev J6:=@List.range_succ_eq_map
abbrev J7:=@List.range_eq_range'
abbrev J8:=@List.drop_eq_nil_of_le
abbrev J9:=@List.length_filter_le
abbrev K0:=@List.size_toArray
abbrev K4:=@Nat.mul_comm
abbrev K5:=@List.flatMap_map
abbrev K6:=@Int.not_le
abbrev K7:=@Nat.min_eq_right
abbrev K8:=@List.take_append_getElem
abbrev K9:=@Int.add_zero
abbrev M3:=@Nat.mul_le_mul_left
abbrev M4:=@Nat.mul_div_le
abbrev M5:=@List.mapM_cons
abbrev M6:=@Nat.le_succ_of_le
abbrev M7:=@Nat.succ_ne_zero
abbrev M8:=@Nat.add_sub_cancel
abbrev M9:=@List.drop_append
abbrev N0:=@Nat.mul_le_mul
abbrev N1:=@Nat.eq_zero_or_pos
abbrev N2:=@List.getElem?_toArray
abbrev N3:=@Array.toList_push
abbrev N4:=@Nat.mod_lt
abbrev N5:=@List.flatMap_append
abbrev N6:=@Array.toList_inj
abbrev N7:=@List.ext_getElem?
abbrev N8:=@List.drop_of_length_le
abbrev N9:=@List.length_drop
abbrev O0:=@Array.getElem?_setIfInBounds
abbrev O1:=@List.drop_eq_getElem_cons
abbrev O2:=@List.nodup_range
abbrev O3:=@List.map_nil
abbrev O4:=@List.pairwise_iff_getElem
abbrev O5:=@List.Perm.refl
abbrev O6:=@Nat.lt_irrefl
abbrev O7:=@List.take_add_one
abbrev O8:=@Int.ediv_le_self
abbrev O9:=@Int.emod_def
abbrev P0:=@Int.ediv_self
abbrev P3:=@Nat.le_of_lt
abbrev P4:=@List.length_pos_iff
abbrev P5:=@Int.mul_add
abbrev P6:=@Nat.ne_of_lt
abbrev P7:=@Int.fdiv_eq_ediv_of_nonneg
abbrev P8:=@Bool.not_false
abbrev P9:=@List.take_take
abbrev Q0:=@List.drop_take
abbrev Q1:=@List.drop_drop
abbrev Q2:=@Option.isSome_iff_exists
abbrev Q3:=@Array.all_eq_true'
abbrev Q4:=@Array.getElem?_modify
abbrev Q5:=@Array.toList_modify
abbrev Q6:=@Array.toList_eraseIdx
abbrev Q7:=@List.map_take
abbrev Q8:=@List.map_drop
abbrev Q9:=@Nat.zero_mul
abbrev R0:=@List.range_succ
abbrev R1:=@List.cons.inj
abbrev R2:=@Nat.sub_self
abbrev R3:=@List.drop_zero
abbrev R4:=@Nat.le_of_not_lt
abbrev R5:=@List.mem_append_right
abbrev R6:=@Bool.not_not
abbrev R7:=@Bool.or_false
abbrev R8:=@List.filter_eq_nil_iff
abbrev R9:=@List.nodup_append
abbrev S0:=@Option.some.inj
abbrev S1:=@Nat.le_of_eq
abbrev S2:=@Nat.max_eq_right
abbrev S3:=@Nat.max_eq_left
abbrev S4:=@Array.getElem?_eq_some_iff
abbrev S5:=@List.ne_nil_of_mem
abbrev S6:=@List.Perm.append_left
abbrev S8:=@Int.tmod_eq_emod_of_nonneg
abbrev T1:=@Int.ediv_nonneg
abbrev T2:=@Int.toNat_of_nonneg
abbrev T3:=@Bool.and_false
abbrev T4:=@List.map_eq_flatMap
abbrev T5:=@List.foldl_append
abbrev T6:=@List.filter_sublist
abbrev T7:=@List.mem_iff_getElem
abbrev T8:=@Nat.lt_mul_div_succ
abbrev T9:=@Array.mapM_eq_mapM_toList
abbrev U6:=@List.mem_of_mem_drop
abbrev U7:=@Array.filter_eq_empty_iff
abbrev U8:=@List.eraseIdx_sublist
abbrev U9:=@Array.getElem?_replicate
abbrev V0:=@Bool.and_eq_false_iff
abbrev V3:=@List.perm_append_singleton
abbrev V4:=@List.filter_reverse
abbrev V5:=@List.length_reverse
abbrev V6:=@Int.mul_ediv_add_emod
abbrev V7:=@Int.lt_of_mul_lt_mul_left
abbrev V8:=@Int.le_ediv_iff_mul_le
abbrev V9:=@Int.ediv_neg_of_neg_of_pos
abbrev W1:=@List.filter_cons_of_neg
abbrev W2:=@List.filter_cons_of_pos
abbrev W3:=@List.getElem?_set_ne
abbrev W4:=@List.filter_eq_self
abbrev W5:=@List.take_append_of_le_length
abbrev W6:=@Option.isNone_iff_eq_none
abbrev W7:=@List.Perm.eq_of_pairwise
noncomputable section
structure P16 (α:Type)where
 f0:α
 f1:α
 f2:α
 f3:α
 f4:α
 f5:α
 f6:α
 f7:α
 f8:α
 f9:α
 f10:α
 f11:α
 f12:α
 f13:α
 f14:α
 f15:α
structure Dg where
 g:(α:Type)->P16 α->α
 s:(α:Type)->α->P16 α->P16 α
def dg0:Dg:=⟨λ_ t=>t.f0,λ_ x t=>⟨x,t.f1,t.f2,t.f3,t.f4,t.f5,t.f6,t.f7,t.f8,t.f9,t.f10,t.f11,t.f12,t.f13,t.f14,t.f15⟩⟩
def dg1:Dg:=⟨λ_ t=>t.f1,λ_ x t=>⟨t.f0,x,t.f2,t.f3,t.f4,t.f5,t.f6,t.f7,t.f8,t.f9,t.f10,t.f11,t.f12,t.f13,t.f14,t.f15⟩⟩
def dg2:Dg:=⟨λ_ t=>t.f2,λ_ x t=>⟨t.f0,t.f1,x,t.f3,t.f4,t.f5,t.f6,t.f7,t.f8,t.f9,t.f10,t.f11,t.f12,t.f13,t.f14,t.f15⟩⟩
def dg3:Dg:=⟨λ_ t=>t.f3,λ_ x t=>⟨t.f0,t.f1,t.f2,x,t.f4,t.f5,t.f6,t.f7,t.f8,t.f9,t.f10,t.f11,t.f12,t.f13,t.f14,t.f15⟩⟩
def dg4:Dg:=⟨λ_ t=>t.f4,λ_ x t=>⟨t.f0,t.f1,t.f2,t.f3,x,t.f5,t.f6,t.f7,t.f8,t.f9,t.f10,t.f11,t.f12,t.f13,t.f14,t.f15⟩⟩
def dg5:Dg:=⟨λ_ t=>t.f5,λ_ x t=>⟨t.f0,t.f1,t.f2,t.f3,t.f4,x,t.f6,t.f7,t.f8,t.f9,t.f10,t.f11,t.f12,t.f13,t.f14,t.f15⟩⟩
def dg6:Dg:=⟨λ_ t=>t.f6,λ_ x t=>⟨t.f0,t.f1,t.f2,t.f3,t.f4,t.f5,x,t.f7,t.f8,t.f9,t.f10,t.f11,t.f12,t.f13,t.f14,t.f15⟩⟩
def dg7:Dg:=⟨λ_ t=>t.f7,λ_ x t=>⟨t.f0,t.f1,t.f2,t.f3,t.f4,t.f5,t.f6,x,t.f8,t.f9,t.f10,t.f11,t.f12,t.f13,t.f14,t.f15⟩⟩
def dg8:Dg:=⟨λ_ t=>t.f8,λ_ x t=>⟨t.f0,t.f1,t.f2,t.f3,t.f4,t.f5,t.f6,t.f7,x,t.f9,t.f10,t.f11,t.f12,t.f13,t.f14,t.f15⟩⟩
def dg9:Dg:=⟨λ_ t=>t.f9,λ_ x t=>⟨t.f0,t.f1,t.f2,t.f3,t.f4,t.f5,t.f6,t.f7,t.f8,x,t.f10,t.f11,t.f12,t.f13,t.f14,t.f15⟩⟩
def e86:Dg:=⟨λ_ t=>t.f10,λ_ x t=>⟨t.f0,t.f1,t.f2,t.f3,t.f4,t.f5,t.f6,t.f7,t.f8,t.f9,x,t.f11,t.f12,t.f13,t.f14,t.f15⟩⟩
def e87:Dg:=⟨λ_ t=>t.f11,λ_ x t=>⟨t.f0,t.f1,t.f2,t.f3,t.f4,t.f5,t.f6,t.f7,t.f8,t.f9,t.f10,x,t.f12,t.f13,t.f14,t.f15⟩⟩
def e88:Dg:=⟨λ_ t=>t.f12,λ_ x t=>⟨t.f0,t.f1,t.f2,t.f3,t.f4,t.f5,t.f6,t.f7,t.f8,t.f9,t.f10,t.f11,x,t.f13,t.f14,t.f15⟩⟩
def e89:Dg:=⟨λ_ t=>t.f13,λ_ x t=>⟨t.f0,t.f1,t.f2,t.f3,t.f4,t.f5,t.f6,t.f7,t.f8,t.f9,t.f10,t.f11,t.f12,x,t.f14,t.f15⟩⟩
def e90:Dg:=⟨λ_ t=>t.f14,λ_ x t=>⟨t.f0,t.f1,t.f2,t.f3,t.f4,t.f5,t.f6,t.f7,t.f8,t.f9,t.f10,t.f11,t.f12,t.f13,x,t.f15⟩⟩
def e91:Dg:=⟨λ_ t=>t.f15,λ_ x t=>⟨t.f0,t.f1,t.f2,t.f3,t.f4,t.f5,t.f6,t.f7,t.f8,t.f9,t.f10,t.f11,t.f12,t.f13,t.f14,x⟩⟩
def sA(n:Nat):Dg:=bif Nat.ble 8 n then(bif Nat.ble 12 n then(bif Nat.ble 14 n then(bif Nat.ble 15 n then e91 else e90)else(bif Nat.ble 13 n then e89 else e88))else(bif Nat.ble 10 n then(bif Nat.ble 11 n then e87 else e86)else(bif Nat.ble 9 n then dg9 else dg8)))else(bif Nat.ble 4 n then(bif Nat.ble 6 n then(bif Nat.ble 7 n then dg7 else dg6)else(bif Nat.ble 5 n then dg5 else dg4))else(bif Nat.ble 2 n then(bif Nat.ble 3 n then dg3 else dg2)else(bif Nat.ble 1 n then dg1 else dg0)))
def P16.const{α:Type}(x:α):P16 α:=⟨x,x,x,x,x,x,x,x,x,x,x,x,x,x,x,x⟩
inductive Val where
 |vi (n:Int)
 |vs (l:List UInt8)
 |vb (x:Bool)
 |vl (r:List Val)
 deriving Inhabited
def Val.toI:Val->Int
 | .vi n=>n
 |_=>0
def Val.toS:Val->List UInt8
 | .vs l=>l
 |_=>[]
def Val.toB:Val->Bool
 | .vb x=>x
 |_=>false
def Val.toL:Val->List Val
 | .vl r=>r
 |_=>[]
inductive CT where
 |int (k:IntKind)
 |str
 |bool
 deriving DecidableEq
inductive Prim where
 |ar (op:BinOp) (k:IntKind)
 |cmp (op:BinOp)
 |scmp (op:BinOp)
 |cat
 |not
 |and
 |or
 |beq
 |ite
 |un (op:UnOp) (k:IntKind)
 |conv (k:IntKind)
 |slen
 |sat
 |ssub
 |llen
 |lget
 |lset
 |lcat
 |lsub
 |row
 |imin
 |imax
 |iadd
 |isub
 |sbytes
 |bstr
 |bok
 |mfind (ks:List CT)
 |mdel (ks:List CT)
 |lrep
 |scnt
 |sidx
 deriving DecidableEq
inductive SX where
 |ci (n:Int)
 |cs (l:List UInt8)
 |cb (x:Bool)
 |va (n:Nat)
 |op (p:Prim) (l:List SX)
 |app (f:Nat) (l:List SX)
 deriving Inhabited
inductive AV where
 |bool (b:Bool)
 |int (k:IntKind) (n:Int)
 |str (s:List UInt8)
 |nilp
 |ptr (b o:Nat)
 |glob (g:Nat)
 |nils
 |sl (b o len cap:Nat)
 |us (b o len sz:Nat)
 |es (b o sz:Nat)
 |es0
 |nilm
 |map (r:Nat)
 |nilf
 |func (fn:Fn) (first cap:List AV)
 |yield (l:Nat)
 |nili
 |iface (t:Nat) (v:AV)
 |agg (cs:List AV)
 |tup (vs:List AV)
 |opq (n:Nat)
 |oint (k:IntKind) (e:SX)
 |ostr (e:SX)
 |obool (e:SX)
 |osl (b:Nat) (off len:SX) (sz:Nat)
 |optr (b:Nat) (idx:SX) (j sz:Nat)
 |ous (b:Nat) (len:SX) (sz:Nat)
 |atl (n:Nat)
 |any
 deriving Inhabited
def AV.undef:AV:= .tup []
def Mq:List UInt8->List UInt8->Bool
 | [],[]=>true
 |a::x,b::y=>bif Nat.beq a.toNat b.toNat then Mq x y else false
 |_,_=>false
def MV:Int->Int->Bool
 | .ofNat a,.ofNat b=>Nat.beq a b
 | .negSucc a,.negSucc b=>Nat.beq a b
 |_,_=>false
mutual
def SX.beq:SX->SX->Bool
 | .ci a,.ci b=>MV a b
 | .cs a,.cs b=>Mq a b
 | .cb a,.cb b=>a==b
 | .va a,.va b=>Nat.beq a b
 | .op p a,.op q b=>decide (p=q)&&SX.beqs a b
 | .app p a,.app q b=>Nat.beq p q&&SX.beqs a b
 |_,_=>false
def SX.beqs:List SX->List SX->Bool
 | [],[]=>true
 |a::x,b::y=>SX.beq a b&&SX.beqs x y
 |_,_=>false
end
abbrev TF:=P16 (P16 AV)
structure PF where
 g:TF->AV
 s:AV->TF->TF
def Ti(x y:Dg):PF:=⟨λt=>y.g _ (x.g _ t),λv t=>x.s _ (y.s _ v (x.g _ t)) t⟩
def e06:PF:=⟨λ_=> .undef,λ_ t=>t⟩
def Gi(n:Nat):PF:=bif Nat.blt n 256 then Ti (sA (n/16)) (sA (n % 16))else e06
def TF.get(t:TF)(n:Nat):AV:=(Gi n).g t
def TF.set(t:TF)(n:Nat)(v:AV):TF:=(Gi n).s v t
def e07:P16 AV:=P16.const .undef
def TF.empty:TF:=P16.const e07
inductive ADef where
 |coll (b:Nat)
 |fn (f:FuncId) (cap args:List AV)
structure Ent where
 key:AV
 val:AV
 born:Nat
def jM:Nat:=4294967295
inductive Blk where
 |cells (elem fz:Nat) (cs:List AV)
 |arr (elem:Nat) (sig:List CT) (l:SX)
 |map (es:List Ent) (clock:Nat)
 |marr (d:Bool) (ks vs:List CT) (l:SX)
 |bag (elem:Nat) (sig:List CT) (l:SX)
 |mrg (it:Nat) (d:Bool) (ks vs:List CT) (l:SX)
 |mit (m:Nat)
 |vec (cs:List AV)
 |strIter (s:List UInt8) (pos:Nat)
 |mapIter (m:Option Nat) (since:Nat) (seen:List Nat) (stepped:Nat)
 |loop (st:LoopState) (pending:Option Code) (fn:FuncId) (tm:TF) (nt:Nat) (params:Array Tmp) (assign body:Code) (defers:Nat)
 |defd (taken:Bool)
abbrev TH:=P16 (P16 (P16 (P16 (Option Blk))))
structure PH where
 g:TH->Option Blk
 s:Option Blk->TH->TH
def RH(x y z u:Dg):PH:=⟨λt=>u.g _ (z.g _ (y.g _ (x.g _ t))),
 λv t=>x.s _ (y.s _ (z.s _ (u.s _ v (z.g _ (y.g _ (x.g _ t)))) (y.g _ (x.g _ t))) (x.g _ t)) t⟩
def Kg:PH:=⟨λ_=>none,λ_ t=>t⟩
def uf(n:Nat):PH:=bif !(Nat.blt n 65536)then Kg else RH (sA (n/4096)) (sA (n/256 % 16)) (sA (n/16 % 16)) (sA (n % 16))
structure Heap where
 t:TH
 next:Nat
 wm:Nat
def VX:P16 (Option Blk):=P16.const none
def Nr:P16 (P16 (Option Blk)):=P16.const VX
def Jt:P16 (P16 (P16 (Option Blk))):=P16.const Nr
def gf(b:Nat)(t:TH)(_ _:Nat):Option Blk:=(uf b).g t
def e92(b:Nat)(x:Option Blk)(t:TH)(next wm:Nat):Heap:=⟨(uf b).s x t,next,wm⟩
def kL(x:Blk)(t:TH)(next wm:Nat):Heap:=⟨(uf next).s (some x) t,next+1,wm⟩
def Heap.get(h:Heap)(b:Nat):Option Blk:=Heap.rec (gf b) h
def Heap.put(h:Heap)(b:Nat)(x:Option Blk):Heap:=Heap.rec (e92 b x) h
def Heap.new(h:Heap)(x:Blk):Heap:=Heap.rec (kL x) h
def Heap.empty:Heap:=⟨P16.const Jt,0,0⟩
def fe(P:Program)(t:TypeId):Option Nat:=(P.info? t).map (·.size)
def LM(P:Program)(t:TypeId):Option Bool:=(P.underlying t).map λ
 | .struct _| .array _ _=>true
 |_=>false
def Bc:Value->Option AV
 | .bool b=>some (.bool b)
 | .int k n=>some (.int k n)
 | .string s=>some (.str s.data.toList)
 | .pointer none=>some .nilp
 | .slice none 0 0=>some .nils
 | .map none=>some .nilm
 | .nilFunc=>some .nilf
 | .nilIface=>some .nili
 |_=>none
def xG:Value->Option AV
 | .agg cs=>(cs.toList.mapM Bc).map .agg
 | .tuple vs=>match vs.toList with
   | []=>some .undef
   |_=>none
 |v=>Bc v
def jk(P:Program)(t:TypeId):Option AV:=((P.info? t).bind (·.zero)).bind xG
def AV.cells:AV->List AV
 | .agg cs=>cs
 |v=>[v]
def AV.nt:AV->Bool
 | .tup _=>false
 | .any=>false
 |_=>true
def AV.one:AV->Bool
 | .agg _| .tup _| .any=>false
 |_=>true
def AV.oneA:AV->Bool
 | .agg _| .tup _=>false
 |_=>true
def lO:Int->Int->Bool
 | .ofNat a,.ofNat b=>Nat.blt a b
 | .negSucc _,.ofNat _=>true
 | .ofNat _,.negSucc _=>false
 | .negSucc a,.negSucc b=>Nat.blt b a
def oc:Int->Int->Bool
 | .ofNat a,.ofNat b=>Nat.beq a b
 | .negSucc a,.negSucc b=>Nat.beq a b
 |_,_=>false
def LH:IntKind->Nat
 | .i8=>128| .i16=>32768| .i32=>2147483648| .i64=>9223372036854775808
 | .u8=>256| .u16=>65536| .u32=>4294967296| .u64=>18446744073709551616
def oG(k:IntKind)(n:Int):Int:=match n with
 | .ofNat m=>bif Nat.blt m (LH k)then .ofNat m else k.wrap (.ofNat m)
 | .negSucc m=>k.wrap (.negSucc m)
def vN:Int->Option Nat
 | .ofNat n=>some n
 | .negSucc _=>none
def uj(op:BinOp)(k:IntKind)(x y:Int):Option AV:=
 match op with
 | .add=>some (.int k (oG k (x+y)))
 | .sub=>some (.int k (oG k (x-y)))
 | .mul=>some (.int k (oG k (x*y)))
 | .quo=>bif oc y 0 then none else some (.int k (oG k (x.tdiv y)))
 | .rem=>bif oc y 0 then none else some (.int k (x.tmod y))
 | .and=>some (.int k (oG k ((BitVec.ofInt k.bits x&&&BitVec.ofInt k.bits y).toNat)))
 | .or=>some (.int k (oG k ((BitVec.ofInt k.bits x|||BitVec.ofInt k.bits y).toNat)))
 | .xor=>some (.int k (oG k ((BitVec.ofInt k.bits x^^^BitVec.ofInt k.bits y).toNat)))
 | .andNot=>some (.int k (oG k ((BitVec.ofInt k.bits x&&& ~~~(BitVec.ofInt k.bits y)).toNat)))
 | .eql=>some (.bool (oc x y))
 | .neq=>some (.bool (!oc x y))
 | .lss=>some (.bool (lO x y))
 | .leq=>some (.bool (!lO y x))
 | .gtr=>some (.bool (lO y x))
 | .geq=>some (.bool (!lO x y))
 |_=>none
def JO(op:BinOp)(k:IntKind)(x y:Int):Option AV:=
 match vN y with
 |none=>none
 |some y=>
  let n:=min y k.bits
  match op with
  | .shl=>some (.int k (oG k (x*2^n)))
  | .shr=>some (.int k (match x with| .ofNat m=> .ofNat (m/2^n)| .negSucc m=>(Int.negSucc m).fdiv (2^n)))
  |_=>none
def e93(a:UInt8)(ih:List UInt8->Bool)(y:List UInt8):Bool:=match y with
 | []=>false
 |b::y=>bif Nat.beq a.toNat b.toNat then ih y else false
def Bu(x:List UInt8):List UInt8->Bool:=List.rec (motive:=λ_=>List UInt8->Bool) List.isEmpty (λa _=>e93 a) x
def ltN(y:List UInt8):Bool:=match y with
 | []=>false
 |_::_=>true
def ltS(a:UInt8)(ih:List UInt8->Bool)(y:List UInt8):Bool:=match y with
 | []=>false
 |b::y=>bif Nat.blt a.toNat b.toNat then true else bif Nat.beq a.toNat b.toNat then ih y else false
def ij(x:List UInt8):List UInt8->Bool:=List.rec (motive:=λ_=>List UInt8->Bool) ltN (λa _=>ltS a) x
def SI:Nat:=4294967296
def Od(op:BinOp)(x y:List UInt8):Option AV:=
 match op with
 | .add=>bif Nat.blt (x.length+y.length) SI then some (.str (x++y))else none
 | .eql=>some (.bool (Bu x y))
 | .neq=>some (.bool (!Bu x y))
 | .lss=>some (.bool (ij x y))
 | .leq=>some (.bool (!ij y x))
 | .gtr=>some (.bool (ij y x))
 | .geq=>some (.bool (!ij x y))
 |_=>none
def FV:AV->Option Bool
 | .nils=>some true
 | .sl _ _ _ _=>some false
 | .us _ _ _ _=>some false
 | .es _ _ _=>some false
 | .es0=>some false
 |_=>none
def NM:AV->Option Bool
 | .nilm=>some true
 | .map _=>some false
 |_=>none
def NQ:AV->Option Bool
 | .nilf=>some true
 | .func _ _ _=>some false
 | .yield _=>some false
 |_=>none
def kQ(P:Program)(t:TypeId)(cs:List AV)(off:Nat):Option AV:=
 match LM P t,fe P t with
 |some true,some n=>bif Nat.ble (off+n) cs.length then some (.agg ((cs.drop off).take n))else none
 |some false,some _=>cs[off]?
 |_,_=>none
def ws(P:Program)(ih:TypeId->AV->AV->Option Bool)(xs ys:List AV):List Field->Option Bool
 | []=>some true
 |f::r=>bif f.name== "_" then ws P ih xs ys r else match kQ P f.type xs f.offset,kQ P f.type ys f.offset with
  |some a,some b=>match ih f.type a b with
   |some true=>ws P ih xs ys r
   |x=>x
  |_,_=>none
def Gn(P:Program)(ih:TypeId->AV->AV->Option Bool)(e n:Nat)(xs ys:List AV):Nat->Nat->Option Bool
 |0,_=>some true
 |k+1,i=>match kQ P e xs (i*n),kQ P e ys (i*n)with
  |some a,some b=>match ih e a b with
   |some true=>Gn P ih e n xs ys k (i+1)
   |x=>x
  |_,_=>none
def dp6(P:Program)(e a o b o':Nat):Option Bool:=match fe P e with
 |some (_+1)=>bif Nat.beq a b then some (Nat.beq o o')else none
 |_=>none
def my(P:Program)(ih:TypeId->AV->AV->Option Bool)(t:TypeId)(x y:AV):Option Bool:=
 match P.underlying t with
 |some .bool=>match x,y with
  | .bool a,.bool b=>some (a==b)
  |_,_=>none
 |some (.int _)=>match x,y with
  | .int k a,.int k' b=>if k=k' then some (oc a b)else none
  | .oint k a,.oint k' b=>if k=k' then(bif SX.beq a b then some true else none)else none
  |_,_=>none
 |some .string=>match x,y with
  | .str a,.str b=>some (Bu a b)
  | .ostr a,.ostr b=>bif SX.beq a b then some true else none
  |_,_=>none
 |some (.pointer e)=>match x,y with
  | .nilp,.nilp=>some true
  | .nilp,.ptr _ _=>some false
  | .ptr _ _,.nilp=>some false
  | .ptr a o,.ptr b o'=>dp6 P e a o b o'
  |_,_=>none
 |some (.interface _)=>match x,y with
  | .nili,.nili=>some true
  | .nili,.iface _ _=>some false
  | .iface _ _,.nili=>some false
  | .iface tx vx,.iface ty vy=>bif Nat.beq tx ty then(match P.info? tx with
   |some i=>bif i.comparable then ih tx vx vy else none
   |none=>none)
   else some false
  |_,_=>none
 |some (.slice _)=>match x,y with
  | .nils,b=>FV b
  |a,.nils=>FV a
  |_,_=>none
 |some (.map _ _)=>match x,y with
  | .nilm,b=>NM b
  |a,.nilm=>NM a
  |_,_=>none
 |some (.func _ _ _)=>match x,y with
  | .nilf,b=>NQ b
  |a,.nilf=>NQ a
  |_,_=>none
 |some (.struct fields)=>match x,y with
  | .agg xs,.agg ys=>bif P.stoodInHeld t then none else ws P ih xs ys fields.toList
  |_,_=>none
 |some (.array len elem)=>match x,y with
  | .agg xs,.agg ys=>match fe P elem with
    |none=>none
    |some n=>Gn P ih elem n xs ys len 0
  |_,_=>none
 |_=>none
def e94(_:TypeId)(_ _:AV):Option Bool:=none
def kG(P:Program)(n:Nat):TypeId->AV->AV->Option Bool:=Nat.rec (motive:=λ_=>TypeId->AV->AV->Option Bool) e94 (λ_=>my P) n
def wB:Operand->Bool
 | .const _=>true
 |_=>false
def RE(P:Program)(t:TypeId)(x y:Operand)(a b:AV):Bool:=
 match a with
 | .nili=>wB x||wB y||(match b with
   | .nili=>false
   | .opq _=>false
   | .any=>false
   |_=>true)
 | .any=>false
 | .agg _=> !(P.eqGuardType P.depth t)
 | .opq _=>false
 |_=>true
def xW(P:Program)(op:BinOp)(t:TypeId)(x y:Operand)(a b:AV):Bool:=
 match op with
 | .eql| .neq=>RE P t x y a b
 |_=>true
def e08(op:BinOp)(k k':IntKind)(a b:Int):Option AV:=match op with
 | .shl=>JO .shl k a b
 | .shr=>JO .shr k a b
 |op=>if k=k' then uj op k a b else none
def vT(P:Program)(op:BinOp)(t:TypeId)(x y:AV):Option AV:=match op with
 | .eql=>(kG P 10000 t x y).map .bool
 | .neq=>(kG P 10000 t x y).map λb=> .bool (!b)
 |_=>none
def Vc(op:BinOp)(k:IntKind)(a:Int)(n:Nat):Option AV:=match op,k with
 | .gtr,.i64=>bif lO (.ofNat n) a then none else some (.bool false)
 |_,_=>none
def UN(P:Program)(op:BinOp)(t:TypeId)(x y:AV):Option AV:=
 match x with
 | .int k a=>match y with
   | .int k' b=>e08 op k k' a b
   | .atl n=>Vc op k a n
   |_=>none
 | .str a=>match y with
   | .str b=>Od op a b
   |_=>none
 |x=>vT P op t x y
def Ln(op:UnOp)(x:AV):Option AV:=
 match op,x with
 | .neg,.int k n=>some (.int k (oG k (0-n)))
 | .xor,.int k n=>uj .xor k (if k.signed then-1 else k.max) n
 | .not,.bool b=>some (.bool !b)
 |_,_=>none
def Fw(P:Program)(t:TypeId)(a:AV)(h:Heap):Option AV:=
 match a with
 | .ptr b o=>match h.get b with
   |some (.cells _ _ cs)=>kQ P t cs o
   |_=>none
 |_=>none
def kE(cs:List AV)(o:Nat)(vs:List AV):List AV:=cs.take o++vs++cs.drop (o+vs.length)
def putCells(h:Heap)(b o:Nat)(vs:List AV):Option Heap:=
 match vs with
 | []=>some h
 |vs=>match h.get b with
  |some (.cells e fz cs)=>
   bif Nat.ble h.wm b&&Nat.ble fz o&&Nat.ble (o+vs.length) cs.length&&vs.all AV.one then some (h.put b (some (.cells e fz (kE cs o vs))))else none
  |_=>none
def HA(P:Program)(t:TypeId)(a v:AV)(h:Heap):Option Heap:=
 match a,fe P t with
 | .ptr b o,some n=>bif v.nt&&Nat.beq v.cells.length n then putCells h b o v.cells else none
 |_,_=>none
def Iw(t:TypeId)(v:AV)(h:Heap):Option (AV×Heap):=
 bif v.cells.all AV.one then some (.ptr h.next 0,h.new (.cells t 0 v.cells))else none
def zT(place:Nat->Option (Nat×Nat))(cells:List AV):List (Nat×AV)->Option (List AV)
 | []=>some cells
 |(i,v)::rest=>
  match place i with
  |none=>none
  |some (off,size)=>bif v.nt&&(Nat.beq v.cells.length size&&Nat.ble (off+v.cells.length) cells.length)then zT place (kE cells off v.cells) rest else none
def Qp(P:Program)(t:TypeId)(parts:List (Nat×AV)):Option AV:=
 match jk P t,P.underlying t with
 |some z,some (.struct fields)=>(zT (λi=>(fields[i]?).bind λf=>(fe P f.type).map λs=>(f.offset,s)) z.cells parts).bind λcs=>
  bif fields.all (λf=>(fe P f.type).isSome)&&z.nt then some (.agg cs)else none
 |some z,some (.array _ elem)=>match fe P elem with
  |some s=>bif z.nt then(zT (λi=>some (i*s,s)) z.cells parts).map .agg else none
  |none=>none
 |_,_=>none
def dZ:Nat->List AV->List AV
 |0,_=>[]
 |n+1,l=>l++dZ n l
def yz(P:Program)(t:TypeId)(len:Nat)(parts:List (Nat×AV))(h:Heap):Option (AV×Heap):=
 match P.underlying t with
 |some (.slice elem)=>match fe P elem,jk P elem with
  |some s,some z=>bif Nat.beq z.cells.length s&&Nat.blt 0 s&&Nat.ble (len*s) 1000000 then
   match zT (λi=>some (i*s,s)) (dZ len z.cells) parts with
   |some cs=>bif cs.all AV.one then some (.sl h.next 0 len len,h.new (.cells elem 0 cs))else none
   |none=>none
   else none
  |_,_=>none
 |_=>none
def LC(P:Program)(s:TypeId)(a:AV)(f:Nat):Option AV:=
 match P.underlying s,a with
 |some (.struct fields),.ptr b o=>match fields[f]? with
  |some f=>match fe P f.type with
   |some (_+1)=>some (.ptr b (o+f.offset))
   |_=>none
  |none=>none
 |_,_=>none
def Ou(P:Program)(t:TypeId)(x i:AV):Option AV:=
 match i with
 | .int _ i=>match vN i,P.underlying t,x with
   |some i,some (.array len elem),.ptr b o=>match fe P elem with
    |some s=>bif Nat.blt i len then some (.ptr b (o+i*s))else none
    |none=>none
   |some i,some (.slice elem),.sl b o len _=>match fe P elem with
    |some s=>bif Nat.blt i len then some (.ptr b (o+i*s))else none
    |none=>none
   |some i,some (.slice elem),.us b o len _=>match fe P elem with
    |some s=>bif Nat.blt i len then some (.ptr b (o+i*s))else none
    |none=>none
   |_,_,_=>none
 |_=>none
def OA(P:Program)(t:TypeId)(x i:AV):Option AV:=
 match i with
 | .int _ i=>match vN i,P.underlying t,x with
   |some i,some (.array len elem),.agg cs=>match fe P elem with
    |some s=>bif Nat.blt i len then kQ P elem cs (i*s)else none
    |none=>none
   |some i,some .string,.str s=>(s[i]?).map λb=> .int .u8 b.toNat
   |_,_,_=>none
 |_=>none
def ft(x:Option AV)(d:Nat):Option Nat:=
 match x with
 |none=>some d
 |some (.int _ i)=>vN i
 |some _=>none
def Vt(P:Program)(t:TypeId)(x:AV)(lo hi mx:Option AV)(h:Heap):Option AV:=
 match P.underlying t,x with
 |some .string,.str s=>match ft lo 0,ft hi s.length,mx with
  |some l,some e,none=>bif Nat.ble l e&&Nat.ble e s.length then some (.str ((s.drop l).take (e-l)))else none
  |_,_,_=>none
 |some (.slice elem),.nils=>match ft lo 0,ft hi 0,ft mx 0,fe P elem with
  |some 0,some 0,some 0,some _=>some .nils
  |_,_,_,_=>none
 |some (.slice elem),.es b o sz=>match ft lo 0,ft hi 0,mx,fe P elem with
  |some 0,some 0,none,some _=>some (.es b o sz)
  |some 0,some 0,some m,some _=>match ft (some m) 0 with
   |some 0=>some .es0
   |_=>none
  |_,_,_,_=>none
 |some (.slice elem),.es0=>match ft lo 0,ft hi 0,ft mx 0,fe P elem with
  |some 0,some 0,some 0,some _=>some .es0
  |_,_,_,_=>none
 |some (.slice elem),.sl b o len cap=>match ft lo 0,ft hi len,ft mx cap,fe P elem with
  |some l,some e,some m,some s=>bif Nat.ble l e&&Nat.ble e m&&Nat.ble m cap then some (.sl b (bif Nat.beq m l then o else o+l*s) (e-l) (m-l))else none
  |_,_,_,_=>none
 |some (.slice elem),.us b o len sz=>match ft lo 0,ft hi len,fe P elem,h.get b with
  |some l,some e,some s,some (.cells _ _ cs)=>bif Nat.beq s sz&&Nat.ble l e&&Nat.blt 0 s&&Nat.ble (o+e*s) cs.length then
   (match mx with
   |none=>bif Nat.blt (o+l*s) cs.length||Nat.beq l 0 then some (.us b (o+l*s) (e-l) sz)else some (.es b (o+l*s) sz)
   |some m=>match ft (some m) 0 with
    |some m=>bif Nat.ble e m&&Nat.ble (o+m*s) cs.length then some (.sl b (bif Nat.beq m l then o else o+l*s) (e-l) (m-l))else none
    |none=>none)
   else none
  |_,_,_,_=>none
 |some (.array n elem),.ptr b o=>match ft lo 0,ft hi n,ft mx n,fe P elem with
  |some l,some e,some m,some s=>bif Nat.ble l e&&Nat.ble e m&&Nat.ble m n then some (.sl b (bif Nat.beq m l then o else o+l*s) (e-l) (m-l))else none
  |_,_,_,_=>none
 |_,_=>none
def yA(s n:Nat)(x:AV)(h:Heap):Option (List AV):=
 match x with
 | .nils=>bif Nat.beq n 0 then some []else none
 | .es _ _ _| .es0=>bif Nat.beq n 0 then some []else none
 | .str l=>some ((l.take n).map λb=> .int .u8 b.toNat)
 | .sl b o _ _| .us b o _ _=>match h.get b with
   |some (.cells _ _ cs)=>bif Nat.ble (o+n*s) cs.length&&((cs.drop o).take (n*s)).all AV.one then some ((cs.drop o).take (n*s))else none
   |_=>none
 |_=>none
def ig:AV->Option Nat
 | .nils| .es _ _ _| .es0=>some 0
 | .str l=>some l.length
 | .sl _ _ n _| .us _ _ n _=>some n
 |_=>none
def room:Nat:=1000000
def lZ(s:Nat)(y:AV)(h:Heap):Option (Nat×List AV):=
 match ig y with
 |some n=>(yA s n y h).bind λl=>bif Nat.beq l.length (n*s)then some (n,l)else none
 |none=>none
def XH(z:List AV)(y:AV):Option (Nat×List AV):=
 match y with
 | .int _ m=>match vN m with
   |some n=>bif Nat.ble n room&&z.all AV.one&&Nat.blt 0 z.length then some (n,dZ n z)else none
   |none=>none
 |_=>none
def SA(P:Program)(yt:TypeId)(s:Nat)(z:List AV)(y:AV)(h:Heap):Option (Nat×List AV):=
 match P.underlying yt with
 |some (.slice _)=>lZ s y h
 |some .string=>lZ s y h
 |some (.int _)=>XH z y
 |_=>none
def Sp(elem s:Nat)(x:AV)(n:Nat)(new:List AV)(h:Heap):Option (AV×Heap):=
 match x with
 | .nils=>some (.us h.next 0 n s,h.new (.cells elem 0 new))
 | .es0=>some (.us h.next 0 n s,h.new (.cells elem 0 new))
 | .sl b o len cap=>
   bif Nat.ble (len+n) cap then(putCells h b (o+len*s) new).map λh'=>(.sl b o (len+n) cap,h')
   else(yA s len x h).bind λold=>bif Nat.beq old.length (len*s)then some (.us h.next 0 (len+n) s,h.new (.cells elem 0 (old++new)))else none
 | .us b o len sz=>bif !(Nat.beq s sz)then none else match h.get b with
   |some (.cells e fz cs)=>
    bif Nat.ble (o+(len+n)*s) cs.length then(putCells h b (o+len*s) new).map λh'=>(.us b o (len+n) s,h')
    else bif Nat.ble h.wm b&&Nat.ble fz (o+len*s)&&Nat.ble (o+len*s) cs.length&&Nat.beq e elem then
     some (.us h.next 0 (len+n) s,(h.put b none).new (.cells e (fz-o) ((cs.drop o).take (len*s)++new)))
    else none
   |_=>none
 | .es b o sz=>bif !(Nat.beq s sz)then none else match h.get b with
   |some (.cells e fz cs)=>
    bif Nat.ble h.wm b&&Nat.ble fz o&&Nat.beq e elem then some (.us h.next 0 n s,(h.put b none).new (.cells e 0 new))else none
   |_=>none
 |_=>none
def Oo(s:Nat)(x:AV)(h:Heap):Bool:=
 match x with
 | .nils=>true
 | .es _ _ _=>true
 | .es0=>true
 | .sl _ _ l c=>Nat.ble l c
 | .us b o l sz=>Nat.beq s sz&&(match h.get b with
   |some (.cells _ _ cs)=>Nat.ble (o+l*s) cs.length
   |_=>false)
 |_=>false
def gv(P:Program)(t:TypeId):Bool:=match P.underlying t with
 |some (.struct fs)=>match fs[0]? with
  |some f=>match P.underlying f.type with
   |some (.pointer u)=>Nat.beq u t
   |_=>false
  |none=>false
 |_=>false
def Pe(P:Program)(argTypes:Array TypeId)(x y:AV)(h:Heap):Option (AV×Heap):=
 match(argTypes[0]?).bind P.underlying,argTypes[1]? with
 |some (.slice elem),some yt=>match ig x,P.info? elem,jk P elem with
  |some lx,some i,some z=>
   match SA P yt i.size z.cells y h with
   |none=>none
   |some (n,new)=>
    bif Nat.blt 0 i.size&&Nat.beq z.cells.length i.size&&Nat.ble (lx+n) room&&Nat.ble i.bytes 1000&&Nat.beq argTypes.size 2&& !(gv P elem)then
     (bif Nat.beq n 0 then(bif Oo i.size x h then some (x,h)else none)else Sp elem i.size x n new h)
    else none
  |_,_,_=>none
 |_,_=>none
def cQ7(x:AV)(n:Nat)(new:List AV)(h:Heap):Option (AV×Heap):=
 match x with
 | .nils=>some (.int .i64 n,h)
 | .es _ _ _=>some (.int .i64 n,h)
 | .es0=>some (.int .i64 n,h)
 | .sl b o _ _=>(putCells h b o new).map λh'=>(.int .i64 n,h')
 | .us b o _ _=>(putCells h b o new).map λh'=>(.int .i64 n,h')
 |_=>none
def QQ(P:Program)(argTypes:Array TypeId)(x y:AV)(h:Heap):Option (AV×Heap):=
 match(argTypes[0]?).bind P.underlying with
 |some (.slice elem)=>match fe P elem,ig x,ig y with
  |some s,some lx,some ly=>(yA s (Nat.min ly lx) y h).bind λnew=>cQ7 x (Nat.min ly lx) new h
  |_,_,_=>none
 |_=>none
def Gc:AV->AV->Bool
 | .bool a,.bool b=>a==b
 | .int k a,.int k' b=>(k==k')&&oc a b
 | .str a,.str b=>Bu a b
 |_,_=>false
def Px:List AV->List AV->Bool
 | [],[]=>true
 |a::x,b::y=>Gc a b&&Px x y
 |_,_=>false
def JJ:AV->AV->Bool
 | .agg xs,.agg ys=>Px xs ys
 |x,y=>Gc x y
end
noncomputable section
inductive Ext where
 |ident|count|indexByte|mapsClone|makeNoZero (t:TypeId)|overlaps (t r:TypeId)
inductive FK where
 |bin (op:BinOp)|un (op:UnOp)|conv (d:TypeId)|len|max|min|slc
 deriving DecidableEq
structure LHd where
 id:Nat
 s0:List SX
 v0:Nat
 fv:List SX
inductive VT where
 |bad
 |ite (e:SX) (a b:VT)
 |need (e:SX) (x:VT)
 |ret (i:Nat) (out:List SX)
 |loop (hd:LHd) (body:VT) (ks:List VT)
 |both (a b:VT)
 |mloop (hd:LHd) (l:SX) (body:VT) (ks:List VT)
 deriving Inhabited
inductive Ex where
 |norm|exit (id:Nat)|ret
structure StP where
 slots:List (Nat×AV)
 blks:List (Nat×Option Blk)
 next:Nat
structure OwnP where
 slot:Nat
 blk:Nat
 elem:Nat
 sig:List CT
 cell:Option (Nat×Nat)
 lz:Bool
structure LSpec where
 id:Nat
 owns:List OwnP
 v0:Nat
 fv:List SX
 dead:List Nat
 head:StP
 exits:List (Ex×StP)
 mapr:Bool:=false
structure Fr where
 tm:TF
 nt:Nat
 pc:List (SX×Bool)
 fn:FuncId
 ds:List ADef
 ro:Option Nat
def Fr.slot(a:Fr)(t:Nat):AV:=(Gi t).g a.tm
def rS(d:Nat)(v:AV)(tm:TF)(nt:Nat)(pc:List (SX×Bool))(fn:FuncId)(ds:List ADef)(ro:Option Nat):Fr:=bif Nat.blt d nt then⟨tm.set d v,nt,pc,fn,ds,ro⟩else⟨tm,nt,pc,fn,ds,ro⟩
def dL3(p:SX×Bool)(tm:TF)(nt:Nat)(pc:List (SX×Bool))(fn:FuncId)(ds:List ADef)(ro:Option Nat):Fr:=⟨tm,nt,p::pc,fn,ds,ro⟩
def dp7(tm:TF)(nt:Nat)(pc:List (SX×Bool))(fn:FuncId)(ds:List ADef)(ro:Option Nat):Fr:=⟨tm,nt,[],fn,ds,ro⟩
def dL4(x:Option Nat)(tm:TF)(nt:Nat)(pc:List (SX×Bool))(fn:FuncId)(ds:List ADef)(ro:Option Nat):Fr:=⟨tm,nt,pc,fn,ds,x⟩
def Fr.back(a:Fr)(x:Option Nat):Fr:=Fr.rec (dL4 x) a
def dL5(m:List ADef)(tm:TF)(nt:Nat)(pc:List (SX×Bool))(fn:FuncId)(ds:List ADef)(ro:Option Nat):Fr:=⟨tm,nt,pc,fn,m++ds,ro⟩
def Fr.mark(a:Fr)(m:List ADef):Fr:=Fr.rec (dL5 m) a
def Fr.clear(a:Fr):Fr:=Fr.rec dp7 a
def Fr.cond(a:Fr)(p:SX×Bool):Fr:=Fr.rec (dL3 p) a
def ca2(p:Prim)(l:List SX)(d:Int):Option Bool:=match p,l with
 | .imin,[_,.ci c]=>none
 |_,_=>none
def ca3(p:Prim)(l:List SX):Option Bool:=match p,l with
 | .cmp .lss,[.op q x,.ci d]=>ca2 q x d
 |_,_=>none
def Nb(e:SX):Option Bool:=match e with
 | .op p l=>ca3 p l
 |_=>none
def yX(e:SX):List (SX×Bool)->Option Bool
 | []=>Nb e
 |p::r=>bif SX.beq e p.1 then some p.2 else yX e r
def Fr.put(a:Fr)(dst:Option Tmp)(v:AV):Fr:=
 match dst with
 |none=>a
 |some d=>Fr.rec (rS d v) a
def Fr.ev(a:Fr):Operand->Option AV
 | .tmp t=>some (a.slot t)
 | .const v=>xG v
 | .global g=>none
 | .func f=>some (.func (.func f) [] [])
inductive Res where
 |val (v:AV) (h:Heap)
 |need (e:SX) (v:AV) (h:Heap)
 |cho (e:SX) (v:AV) (l:List AV) (h:Heap)
 |enter (f:FuncId) (args:List AV)
 |choice (l:List (AV×Heap))
 |yield (l:Nat) (args:List AV)
 |defer (d:ADef)
 |bad
structure Env where
 P:Program
 ext:FuncId->Option Ext
 amb:FuncId->Bool
 caps:FuncId->Bool
 hook:FuncId->List AV->Heap->Res
 fact:FK->List AV->Option AV
 lspec:FuncId->Nat->Fr->Heap->Option LSpec
def evs(ρ:Operand->Option AV):List Operand->Option (List AV)
 | []=>some []
 |x::r=>match ρ x,evs ρ r with
  |some v,some vs=>some (v::vs)
  |_,_=>none
def jg(ρ:Operand->Option AV):List (Nat×Operand)->Option (List (Nat×AV))
 | []=>some []
 |(i,x)::r=>match ρ x,jg ρ r with
  |some v,some vs=>some ((i,v)::vs)
  |_,_=>none
def fA(ρ:Operand->Option AV):Option Operand->Option (Option AV)
 |none=>some none
 |some x=>(ρ x).map some
def ov(x:Option AV)(h:Heap):Res:=match x with
 |some v=> .val v h
 |none=> .bad
def oh(x:Option (AV×Heap)):Res:=match x with
 |some (v,h)=> .val v h
 |none=> .bad
def os(x:Option Heap):Res:=match x with
 |some h=> .val .undef h
 |none=> .bad
def Oe(P:Program)(t:TypeId):Bool:=match P.underlying t with
 |some .bool=>false
 |some (.int _)=>true
 |some .string=>true
 |_=>false
def sf(P:Program)(t:TypeId)(k:AV):Bool:=
 match P.underlying t,k with
 |some .bool,.bool _=>false
 |some (.int _),.int _ _=>false
 |some .string,.str _=>false
 |some (.struct fields),.agg cs=>fields.all λf=>(kQ P f.type cs f.offset).isSome&&Oe P f.type
 |_,_=>false
def nH(P:Program)(kt:TypeId)(k:AV):List Ent->Nat->Option (Option (Nat×Ent))
 | [],_=>some none
 |e::r,i=>match kG P 10000 kt k e.key with
  |some true=>some (some (i,e))
  |some false=>nH P kt k r (i+1)
  |none=>none
def Jj:List Ent->Nat->Ent->List Ent
 | [],_,_=>[]
 |_::r,0,x=>x::r
 |e::r,i+1,x=>e::Jj r i x
def MS:List Ent->Nat->List Ent
 | [],_=>[]
 |_::r,0=>r
 |e::r,i+1=>e::MS r i
def VH(m:AV)(h:Heap):Option (List Ent):=
 match m with
 | .nilm=>none
 | .map r=>match h.get r with
   |some (.map es _)=>some es
   |_=>none
 |_=>none
def NA(P:Program)(t:TypeId)(m k:AV)(ok:Bool)(h:Heap):Option AV:=
 match P.underlying t with
 |some (.map kt et)=>bif sf P kt k then
  match VH m h with
  |none=>none
  |some es=>match nH P kt k es 0 with
   |none=>none
   |some (some (_,e))=>some (bif ok then .tup [e.val,.bool true]else e.val)
   |some none=>(jk P et).map λz=>bif ok then .tup [z,.bool false]else z
  else none
 |_=>none
def Nx(P:Program)(t:TypeId)(m k v:AV)(h:Heap):Option Heap:=
 match P.underlying t,m with
 |some (.map kt _),.map r=>bif sf P kt k&&Nat.ble h.wm r then
  match h.get r with
  |some (.map es c)=>match nH P kt k es 0 with
   |none=>none
   |some (some (i,e))=>bif JJ e.key k then some (h.put r (some (.map (Jj es i ⟨k,v,e.born⟩) c)))else none
   |some none=>some (h.put r (some (.map (es++[⟨k,v,c⟩]) (c+1))))
  |_=>none
  else none
 |_,_=>none
def Jl(b:Nat):List Ent->Nat->Option (Nat×Ent)
 | [],_=>none
 |e::r,i=>bif Nat.beq e.born b then some (i,e)else Jl b r (i+1)
def SV(P:Program)(t:TypeId)(m k:AV)(h:Heap):Option Heap:=
 match P.underlying t,m with
 |some (.map kt _),.map r=>bif sf P kt k&&Nat.ble h.wm r then
  match h.get r with
  |some (.map es c)=>match nH P kt k es 0 with
   |none=>none
   |some (some (i,_))=>some (h.put r (some (.map (MS es i) c)))
   |some none=>none
  |_=>none
  else none
 |_,_=>none
def NT(P:Program)(t:TypeId)(x:AV)(h:Heap):Option (AV×Heap):=
 match P.underlying t,x with
 |some .string,.str l=>none
 |some (.map _ _),.nilm=>none
 |some (.map _ _),.map m=>match h.get m with
  |some (.map _ c)=>some (.ptr h.next 0,h.new (.mapIter (some m) c [] c))
  |some (.marr d ks vs l)=>some (.ptr h.next 0,(h.new (.mit m)).put m (some (.mrg h.next d ks vs l)))
  |_=>none
 |_,_=>none
def tf(es:List Ent)(seen:List Nat):List Ent:=es.filter λe=> !(seen.contains e.born)
def dp8(r m since:Nat)(seen:List Nat)(c:Nat)(h:Heap)(left:List Ent):Res:=
 match left with
 | []=> .val (.tup [.bool false]) h
 |left=> .choice (left.map λe=>(.tup [.bool true,e.key,e.val],h.put r (some (.mapIter (some m) since (seen++[e.born]) c))))
def Gf(it:AV)(Ho:Bool)(h:Heap):Res:=
 match it,Ho with
 | .ptr r 0,true=> .bad
 | .ptr r 0,false=>match h.get r with
   |some (.mapIter none _ _ _)=> .bad
   |some (.mapIter (some m) since seen last)=>match h.get m with
    |some (.map es c)=>
     bif Nat.ble h.wm r&& !(!seen.isEmpty&& !es.isEmpty&&es.all (λe=>Nat.ble last e.born))&& !((tf es seen).any (λe=>Nat.ble since e.born))then dp8 r m since seen c h (tf es seen)else .bad
    |_=> .bad
   |_=> .bad
 |_,_=> .bad
def Ug:List Nat->Option Nat
 | []=>none
 | [x]=>some x
 |_::r=>Ug r
def MG(it:AV)(h:Heap):Option AV:=
 match it with
 | .ptr r 0=>match h.get r with
   |some (.mapIter (some m) _ seen stepped)=>match Ug seen,h.get m with
    |some s,some (.map es c)=>bif Nat.beq c stepped then(Jl s es 0).map λx=> .tup [x.2.key,x.2.val]else none
    |_,_=>none
   |_=>none
 |_=>none
def XZ(P:Program)(asserted:TypeId)(ok:Bool):Option AV:=bif ok then(jk P asserted).map λz=> .tup [z,.bool false]else none
def UL(ok:Bool)(v:AV):Option AV:=some (bif ok then .tup [v,.bool true]else v)
def ME(P:Program)(x:AV)(asserted:TypeId)(ok:Bool):Option AV:=
 match P.underlying asserted with
 |some (.interface _)=>none
 |some _=>match x with
  | .nili=>none
  | .iface t v=>bif Nat.beq t asserted then UL ok v else XZ P asserted ok
  |_=>none
 |none=>none
def QN(P:Program)(s d:TypeId)(x:AV)(h:Heap):Option (AV×Heap):=match P.underlying s,P.underlying d,x with
 |some .string,some (.slice e),.str l=>none
 |_,_,_=>none
def Ca(P:Program)(s d:TypeId)(x:AV)(h:Heap):Option (AV×Heap):=
 match P.underlying s,P.underlying d,x with
 |some _,some (.int k),.int _ n=>some (.int k (oG k n),h)
 |some _,some .string,.str l=>none
 |some (.slice e),some .string,x=>none
 |some (.pointer t),some .unsafePointer,.ptr b o=>none
 |some .unsafePointer,some (.pointer t),.ptr b o=>none
 |_,_,_=>none
def Uv(c:Nat):List UInt8->Nat
 | []=>0
 |x::r=>bif Nat.beq x.toNat c then Uv c r+1 else Uv c r
def dL6(c:Nat):List UInt8->Nat->Option Nat
 | [],_=>none
 |x::r,i=>none
def dp9(c:Nat)(l:List UInt8):Int:=match dL6 c l 0 with
 |some i=>(i:Int)
 |none=> -1
def Ew(P:Program)(e:Ext)(args:List AV)(h:Heap):Option (AV×Heap):=
 match e,args with
 | .mapsClone,[.iface t (.map r)]=>match h.get r with
   |some (.map es c)=>none
   |some (.marr d ks vs l)=>some (.iface t (.map h.next),h.new (.marr d ks vs l))
   |_=>none
 | .ident,[x]=>none
 | .count,[.str l,.int .u8 c]=>none
 | .indexByte,[.str l,.int .u8 c]=>none
 |_,_=>none
def Ho:AV->Bool
 | .str _=>true
 |_=>false
def Rc(P:Program)(t:Option TypeDesc)(x:AV)(h:Heap):Option Nat:=match t with
 |some .string=>match x with
  | .str l=>some l.length
  |_=>none
 |some (.slice _)=>bif Ho x then none else ig x
 |some (.map _ _)=>none
 |_=>none
def Ky(P:Program)(elem:TypeId)(b o n:Nat)(h:Heap):Option (AV×Heap):=match n with
 |0=>some (.undef,h)
 |n=>match jk P elem with
  |some z=>bif Nat.blt 0 z.cells.length then(putCells h b o (dZ n z.cells)).map λh'=>(.undef,h')else none
  |none=>none
def QG(P:Program)(t:Option TypeDesc)(x:AV)(h:Heap):Option (AV×Heap):=match t with
 |some (.slice elem)=>match x with
  | .nils=>none
  | .sl b o n _=>none
  | .us b o n _=>none
  |_=>none
 |some (.map _ _)=>none
 |_=>none
def ST(x:AV)(h:Heap):Option AV:=match x with
 | .nils=>none
 | .es0=>none
 | .sl _ _ _ c=>some (.int .i64 c)
 | .us b o _ sz=>match h.get b with
   |some (.cells _ _ cs)=>bif Nat.blt 0 sz&&Nat.ble o cs.length then some (.atl ((cs.length-o)/sz))else none
   |_=>none
 |_=>none
def Fm(P:Program)(b:Builtin)(argTypes:Array TypeId)(args:List AV)(h:Heap):Option (AV×Heap):=
 match b,args with
 | .len,[x]=>(Rc P ((argTypes[0]?).bind P.underlying) x h).map λ(n:Nat)=>(AV.int .i64 (n:Int),h)
 | .append,[x,y]=>Pe P argTypes x y h
 | .copy,[x,y]=>QQ P argTypes x y h
 | .clear,[x]=>QG P ((argTypes[0]?).bind P.underlying) x h
 | .delete,[m,k]=>match argTypes[0]? with
   |some t=>(SV P t m k h).map λh'=>(.undef,h')
   |none=>none
 | .cap,[x]=>match(argTypes[0]?).bind P.underlying with
   |some (.slice _)=>(ST x h).map λv=>(v,h)
   |_=>none
 | .max,[.int k x,.int _ y]=>some (.int k (bif lO x y then y else x),h)
 | .min,[.int k x,.int _ y]=>some (.int k (bif lO y x then y else x),h)
 |_,_=>none
def CC(x:AV):Option (Nat×Nat):=match x with
 | .sl b o _ _=>some (b,o)
 | .us b o _ _=>some (b,o)
 |_=>none
def Ox(a b:Option (Nat×Nat))(h:Heap):Bool:=match a,b with
 |some p,some q=> !(Nat.beq p.1 q.1)&&(match h.get p.1,h.get q.1 with
  |some (.cells _ fz cs),some (.cells _ _ _)=>Nat.ble fz p.2&&Nat.blt p.2 cs.length
  |_,_=>false)
 |_,_=>false
def Du(t:TypeId)(P:Program)(args:List AV)(h:Heap):Res:=match args with
 | [x,y]=>match P.underlying t with
   |some (.slice e)=>match fe P e with
    |some _=>bif Ox (CC x) (CC y) h then .choice [(.bool false,h),(.bool true,h)]else .bad
    |none=> .bad
   |_=> .bad
 |_=> .bad
def e12(P:Program)(e:Ext)(args:List AV)(h:Heap):Res:=match e with
 | .overlaps t _=>Du t P args h
 |e=>oh (Ew P e args h)
def e13(P:Program)(e:Ext)(args:List AV)(h:Heap):Res:= .bad
def YE(r s:Res):Res:=match r with
 | .bad=> .bad
 |r=>r
def Cp(E:Env)(f:FuncId)(args:List AV)(h:Heap):Res:=
 match E.P.funcs[f]? with
 |none=> .bad
 |some fn=>match fn.body with
  |some _=> .enter f args
  |none=>match E.ext f with
   |some e=>YE (e12 E.P e args h) (e13 E.P e args h)
   |none=> .bad
def Qf(E:Env)(f:AV)(args:List AV)(h:Heap):Res:=
 match f with
 | .func (.func f) first cap=>Cp E f (first++args++cap) h
 | .func (.method name) first _=> .bad
 | .yield l=> .bad
 |_=> .bad
def MP(x:AV):Option AV:=
 match x with
 | .nilp| .nili| .nilf=>none
 | .opq _=>none
 | .any=>none
 | .func (.method _) _ _=>none
 |x=>some x
def Lp(E:Env)(x:Option AV)(k:FK)(vs:List AV):Option AV:=match x with
 |some v=>some v
 |none=>E.fact k vs
def yY(ρ:Operand->Option AV)(a b:Operand)(h:Heap)(c:Option AV):Res:=match c with
 |some (.bool t)=>ov (bif t then ρ a else ρ b) h
 |_=> .bad
def vu(e:TypeId)(h:Heap)(v:Option AV):Res:=match v with
 |some z=>oh (Iw e z h)
 |none=> .bad
def LF(P:Program)(t:TypeId)(h:Heap)(ps:Option (List (Nat×AV))):Res:=match ps with
 |some ps=>ov (Qp P t ps) h
 |none=> .bad
def DE(P:Program)(t n:Nat)(h:Heap)(ps:Option (List (Nat×AV))):Res:=match ps with
 |some ps=>oh (yz P t n ps h)
 |none=> .bad
def Sm(P:Program)(t:TypeId)(h:Heap)(a:Option AV):Res:=match a with
 |some a=>ov (Fw P t a h) h
 |none=> .bad
def Qg(P:Program)(t:TypeId)(h:Heap)(a v:Option AV):Res:=match a with
 |some a=>match v with
  |some v=>os (HA P t a v h)
  |none=> .bad
 |none=> .bad
def d06(P:Program)(h:Heap)(name:String)(first cap:List AV):Res:=match first with
 | .iface t v::rest=> .bad
 |_=> .bad
def BD(P:Program)(h:Heap)(a:Option AV):Res:=match a with
 |some (.func (.method name) first cap)=> .bad
 |some a=>ov (MP a) h
 |none=> .bad
def CL(E:Env)(op:BinOp)(t:TypeId)(x y:Operand)(h:Heap)(a b:Option AV):Res:=match a with
 |some a=>match b with
  |some b=>bif xW E.P op t x y a b then ov (Lp E (UN E.P op t a b) (.bin op) [a,b]) h else .bad
  |none=> .bad
 |none=> .bad
def Qw(E:Env)(op:UnOp)(h:Heap)(a:Option AV):Res:=match a with
 |some a=>ov (Lp E (Ln op a) (.un op) [a]) h
 |none=> .bad
def Dc(E:Env)(s d:TypeId)(h:Heap)(a:Option AV):Res:=match a with
 |some a=>match Ca E.P s d a h with
  |some r=> .val r.1 r.2
  |none=>match QN E.P s d a h with
   |some r=> .bad
   |none=>ov (E.fact (.conv d) [a]) h
 |none=> .bad
def Ci(P:Program)(t:TypeId)(h:Heap)(a:Option AV):Res:=match a with
 |some v=>match P.underlying t with
  |some (.interface _)=> .bad
  |some _=> .val (.iface t v) h
  |none=> .bad
 |none=> .bad
def Cy(fn:Fn)(h:Heap)(a b:Option (List AV)):Res:=match a with
 |some a=>match b with
  |some b=>match fn with
   | .yield _=> .bad
   |fn=> .val (.func fn a b) h
  |none=> .bad
 |none=> .bad
def we(P:Program)(t:TypeId)(h:Heap)(r:Option (Option AV)):Res:=match P.underlying t with
 |some (.map _ _)=>match r with
  |some none=> .val (.map h.next) (h.new (.map [] 0))
  |some (some (.int _ _))=> .bad
  |_=> .bad
 |_=> .bad
def c13(P:Program)(t:TypeId)(h:Heap)(l c:Option AV):Res:=match l with
 |some l=> .bad
 |none=> .bad
def CQ(E:Env)(t:TypeId)(h:Heap)(x:Option AV)(lo hi mx:Option (Option AV)):Res:=match x with
 |some x=>match lo with
  |some lo=>match hi with
   |some hi=>match mx with
    |some mx=>bif hi.isNone&&mx.isSome then .bad else ov (Vt E.P t x lo hi mx h) h
    |none=> .bad
   |none=> .bad
  |none=> .bad
 |none=> .bad
def dq1(P:Program)(t:TypeId)(f:Nat)(h:Heap)(a:Option AV):Res:=match a with
 |some a=> .bad
 |none=> .bad
def Yl(P:Program)(t:TypeId)(f:Nat)(h:Heap)(a:Option AV):Res:=match a with
 |some a=>ov (LC P t a f) h
 |none=> .bad
def s2(F:AV->AV->Option AV)(h:Heap)(a b:Option AV):Res:=match a with
 |some a=>match b with
  |some b=>ov (F a b) h
  |none=> .bad
 |none=> .bad
def Vu(F:AV->AV->AV->Option Heap)(a b c:Option AV):Res:=match a with
 |some a=>match b with
  |some b=>match c with
   |some c=>os (F a b c)
   |none=> .bad
  |none=> .bad
 |none=> .bad
def s2h(F:AV->AV->Option (AV×Heap))(a b:Option AV):Res:=match a with
 |some a=> .bad
 |none=> .bad
def RS(F:AV->Option (AV×Heap))(a:Option AV):Res:=match a with
 |some a=>oh (F a)
 |none=> .bad
def Fi(F:AV->Res)(a:Option AV):Res:=match a with
 |some a=>F a
 |none=> .bad
def s1(F:AV->Option AV)(h:Heap)(a:Option AV):Res:=match a with
 |some a=>ov (F a) h
 |none=> .bad
def MD(i:Nat)(x:AV):Option AV:=match x with
 | .tup vs=>vs[i]?
 |_=>none
def yh(E:Env)(b:Builtin)(ts:Array TypeId)(h:Heap)(args:List AV):Res:=match Fm E.P b ts args h with
 |some r=> .val r.1 r.2
 |none=>match b with
  | .len=>ov (E.fact .len args) h
  | .max=>ov (E.fact .max args) h
  | .min=>ov (E.fact .min args) h
  |_=> .bad
def vE(E:Env)(ρ:Operand->Option AV)(c:Call)(h:Heap)(args:Option (List AV)):Res:=match args with
 |none=> .bad
 |some args=>match c.callee with
  | .builtin b=>yh E b c.argTypes h args
  | .invoke rc name=> .bad
  | .value f=>Fi (λf=>Qf E f args h) (ρ f)
def nZ(E:Env)(ρ:Operand->Option AV)(o:Oper)(h:Heap):Res:=
 match o.op with
 | .move x=>ov (ρ x) h
 | .assign x=>ov (ρ x) h
 | .pick c a b=>yY ρ a b h (ρ c)
 | .alloc e=>vu e h (jk E.P e)
 | .box e x=>vu e h (ρ x)
 | .build t ps=>LF E.P t h (jg ρ ps.toList)
 | .buildSlice t n ps=>DE E.P t n h (jg ρ ps.toList)
 | .load t a=>Sm E.P t h (ρ a)
 | .store t a x=>Qg E.P t h (ρ a) (ρ x)
 | .nilCheck x=>BD E.P h (ρ x)
 | .binOp op t x y _=>CL E op t x y h (ρ x) (ρ y)
 | .unOp op _ x=>Qw E op h (ρ x)
 | .convert s d x=>Dc E s d h (ρ x)
 | .makeInterface t x=>Ci E.P t h (ρ x)
 | .makeFunc fn first cap=>Cy fn h (evs ρ first.toList) (evs ρ cap.toList)
 | .makeMap t r=>we E.P t h (fA ρ r)
 | .makeSlice t l c=> .bad
 | .slice t x lo hi mx=>CQ E t h (ρ x) (fA ρ lo) (fA ρ hi) (fA ρ mx)
 | .fieldAddr s x f=>Yl E.P s f h (ρ x)
 | .field t x f=> .bad
 | .indexAddr t x i=>s2 (Ou E.P t) h (ρ x) (ρ i)
 | .index t x i=>s2 (OA E.P t) h (ρ x) (ρ i)
 | .lookup t x i ok=>s2 (λa i=>NA E.P t a i ok h) h (ρ x) (ρ i)
 | .mapUpdate t m k x=>Vu (λm k v=>Nx E.P t m k v h) (ρ m) (ρ k) (ρ x)
 | .insert t m k x=> .bad
 | .mapEntry t m k=> .bad
 | .entryStore _ m s x=> .bad
 | .range t x=>RS (λa=>NT E.P t a h) (ρ x)
 | .next it s=>Fi (λa=>Gf a s h) (ρ it)
 | .entry it=>s1 (λa=>MG a h) h (ρ it)
 | .typeAssert x _ t ok=>s1 (λa=>ME E.P a t ok) h (ρ x)
 | .extract t i=>s1 (MD i) h (ρ t)
 | .call c=>vE E ρ c h (evs ρ c.args.toList)
 | .defer c=> .bad
 |_=> .bad
def kz:AV->Option (IntKind×SX)
 | .int k n=>some (k,.ci n)
 | .oint k e=>some (k,e)
 |_=>none
def oN:AV->Option SX
 | .str l=>some (.cs l)
 | .ostr e=>some e
 |_=>none
def ut:AV->Option SX
 | .bool b=>some (.cb b)
 | .obool e=>some e
 |_=>none
def NH(op:BinOp)(k k':IntKind)(a b:SX)(h:Heap):Res:=match op with
 | .shl=> .need (.op (.cmp .leq) [.ci 0,b]) (.oint k (.op (.ar .shl k) [a,b])) h
 | .shr=> .need (.op (.cmp .leq) [.ci 0,b]) (.oint k (.op (.ar .shr k) [a,b])) h
 | .quo=>if k=k' then .need (.op (.cmp .neq) [b,.ci 0]) (.oint k (.op (.ar .quo k) [a,b])) h else .bad
 | .rem=>if k=k' then .need (.op (.cmp .neq) [b,.ci 0]) (.oint k (.op (.ar .rem k) [a,b])) h else .bad
 | .add| .sub| .mul| .and| .or| .xor| .andNot=>if k=k' then .val (.oint k (.op (.ar op k) [a,b])) h else .bad
 | .eql| .neq| .lss| .leq| .gtr| .geq=>if k=k' then .val (.obool (.op (.cmp op) [a,b])) h else .bad
def Xs:Int:=4294967296
def js(a b:SX):SX:= .op .iadd [a,b]
def MQ(op:BinOp)(a b:SX)(h:Heap):Res:=match op with
 | .eql| .neq| .lss| .leq| .gtr| .geq=> .val (.obool (.op (.scmp op) [a,b])) h
 | .add=> .bad
 |_=> .bad
def DG(P:Program)(t:TypeId):Bool:=match P.underlying t with
 |some .bool=>true
 |_=>false
def Qv(P:Program)(op:BinOp)(t:TypeId)(a b:SX)(h:Heap):Res:=match op with
 | .eql=>bif DG P t then .val (.obool (.op .beq [a,b])) h else .bad
 | .neq=>bif DG P t then .val (.obool (.op .not [.op .beq [a,b]])) h else .bad
 |_=> .bad
def jf(a b:SX):SX:=match a with
 | .cb true=>b
 |_=>match b with
  | .cb true=>a
  |_=> .op .and [a,b]
def Dp(P:Program)(ih:TypeId->AV->AV->Option SX)(xs ys:List AV):List Field->Option SX
 | []=>some (.cb true)
 |f::r=>bif f.name== "_" then Dp P ih xs ys r else match kQ P f.type xs f.offset,kQ P f.type ys f.offset with
  |some a,some b=>match ih f.type a b with
   |some e=>match Dp P ih xs ys r with
    |some e'=>some (jf e e')
    |none=>none
   |none=>none
  |_,_=>none
def cR1(k k':IntKind)(a b:SX):Option SX:=if k=k' then some (.op (.cmp .eql) [a,b])else none
def Sk(P:Program)(ih:TypeId->AV->AV->Option SX)(t:TypeId)(x y:AV):Option SX:=
 match P.underlying t with
 |some .bool=>none
 |some (.int _)=>match kz x,kz y with
  |some (k,a),some (k',b)=>cR1 k k' a b
  |_,_=>none
 |some .string=>match oN x,oN y with
  |some a,some b=>some (.op (.scmp .eql) [a,b])
  |_,_=>none
 |some (.struct fields)=>match x,y with
  | .agg xs,.agg ys=>bif P.stoodInHeld t then none else Dp P ih xs ys fields.toList
  |_,_=>none
 |_=>none
def dL9(_:TypeId)(_ _:AV):Option SX:=none
def Fj(P:Program)(n:Nat):TypeId->AV->AV->Option SX:=Nat.rec (motive:=λ_=>TypeId->AV->AV->Option SX) dL9 (λ_=>Sk P) n
def DP(P:Program)(t:TypeId):Bool:=match P.underlying t with
 |some (.slice _)=>true
 |_=>false
def LI(P:Program)(op:BinOp)(t:TypeId)(len:SX)(y:AV)(h:Heap):Res:=match y with
 | .nils=>bif DP P t then(match op with
   | .eql=> .cho (.op (.cmp .lss) [.ci 0,len]) (.bool false) [.bool true,.bool false] h
   | .neq=> .bad
   |_=> .bad)else .bad
 |_=> .bad
def Ku(P:Program)(op:BinOp)(t:TypeId)(x y:AV)(h:Heap):Res:=match x with
 | .agg cs=>match Fj P 10000 t (.agg cs) y with
   |some e=>match op with
    | .eql=> .val (.obool e) h
    | .neq=> .val (.obool (.op .not [e])) h
    |_=> .bad
   |none=> .bad
 | .osl _ _ len _=>LI P op t len y h
 | .ous _ len _=> .bad
 |_=> .bad
def VF(P:Program)(op:BinOp)(t:TypeId)(x y:AV)(h:Heap):Res:=
 match kz x,kz y with
 |some (k,a),some (k',b)=>NH op k k' a b h
 |_,_=>match oN x,oN y with
  |some a,some b=>MQ op a b h
  |_,_=>match ut x,ut y with
   |some a,some b=>Qv P op t a b h
   |_,_=>Ku P op t x y h
def JV(P:Program)(op:BinOp)(t:TypeId)(x y:Operand)(h:Heap)(a b:Option AV):Res:=match a with
 |some a=>match b with
  |some b=>bif xW P op t x y a b then VF P op t a b h else .bad
  |none=> .bad
 |none=> .bad
def Lg(op:UnOp)(h:Heap)(a:Option AV):Res:=match a with
 |some (.obool e)=>match op with
  | .not=> .val (.obool (.op .not [e])) h
  |_=> .bad
 |some (.oint k e)=> .bad
 |_=> .bad
def LA(e x y:SX):SX:=match x,y with
 | .cb true,.cb false=>e
 | .cb false,.cb true=> .op .not [e]
 |x,y=> .op .ite [e,x,y]
def Oz(h:Heap)(e:SX)(a b:Option AV):Res:=match a.bind ut,b.bind ut with
 |some x,some y=> .val (.obool (LA e x y)) h
 |_,_=> .bad
def Rd(h:Heap)(e:SX)(a b:Option AV):Res:=match a,b with
 |some (.tup []),some y=> .need (.op .not [e]) y h
 |some x,some (.tup [])=> .need e x h
 |a,b=>Oz h e a b
def NV(h:Heap)(c a b:Option AV):Res:=match c with
 |some (.obool e)=>Rd h e a b
 |_=> .bad
def wc(c:CT)(e:SX):AV:=match c with
 | .int k=> .oint k e
 | .str=> .ostr e
 | .bool=> .obool e
def Ek(sig:List CT)(l idx:SX):Nat->Nat->List AV
 |_,0=>[]
 |j,n+1=>wc (sig.getD j .bool) (.op .lget [l,idx,.ci j])::Ek sig l idx (j+1) n
def EJ(c:CT)(v:AV):Option SX:=match c with
 | .int k=>match kz v with
   |some (k',e)=>if k=k' then some e else none
   |none=>none
 | .str=>oN v
 | .bool=>none
def jZ:List CT->List AV->Option (List SX)
 | [],[]=>some []
 |c::cs,v::vs=>match EJ c v,jZ cs vs with
  |some e,some es=>some (e::es)
  |_,_=>none
 |_,_=>none
def vA(idx len:SX):SX:= .op .and [.op (.cmp .leq) [.ci 0,idx],.op (.cmp .lss) [idx,len]]
def QS(a b:SX):SX:=match a with
 | .ci 0=>b
 |a=> .op .iadd [a,b]
def Sb(a b:SX):SX:=match a with
 | .op (.cmp .leq) [.ci 0,.ci 0]=>b
 |a=> .op .and [a,b]
def NR(P:Program)(t:TypeId)(h:Heap)(x i:Option AV):Res:=match P.underlying t with
 |some (.slice elem)=>match fe P elem with
  |some s=>match i.bind kz with
   |some (_,i)=>match x with
    |some (.osl b off len sz)=>bif Nat.beq s sz then .need (Sb (.op (.cmp .leq) [.ci 0,off]) (vA i len)) (.optr b (QS off i) 0 sz) h else .bad
    |some (.ous b len sz)=>bif Nat.beq s sz then .need (vA i len) (.optr b i 0 sz) h else .bad
    |some (.sl b 0 n _)=> .need (vA i (.ci n)) (.optr b i 0 s) h
    |_=> .bad
   |none=> .bad
  |none=> .bad
 |_=> .bad
def Jv(P:Program)(s:TypeId)(f:Nat)(h:Heap)(a:Option AV):Res:=match P.underlying s,a with
 |some (.struct fields),some (.optr b idx j sz)=>match fields[f]? with
  |some f=>match fe P f.type with
   |some (_+1)=> .val (.optr b idx (j+f.offset) sz) h
   |_=> .bad
  |none=> .bad
 |_,_=> .bad
def Zf(P:Program)(t:TypeId)(h:Heap)(x i:Option AV):Res:= .bad
def pa(k:IntKind)(e:SX):AV:=match e with
 | .ci n=> .int k n
 |e=> .oint k e
def MR(P:Program)(t:Option TypeDesc)(h:Heap)(x:AV):Res:=match t with
 |some .string=>match x with
  | .ostr e=> .val (.oint .i64 (.op .slen [e])) h
  |_=> .bad
 |some (.slice _)=>match x with
  | .osl _ _ len _=> .need (.op (.cmp .leq) [.ci 0,len]) (pa .i64 len) h
  | .ous _ len _=> .need (.op (.cmp .leq) [.ci 0,len]) (pa .i64 len) h
  |_=> .bad
 |_=> .bad
def Kj(b:Builtin)(x y:AV)(h:Heap):Res:=match kz x,kz y with
 |some (k,a),some (_,c)=>match b with
  | .max=> .val (.oint k (.op .imax [a,c])) h
  | .min=> .val (.oint k (.op .imin [a,c])) h
  |_=> .bad
 |_,_=> .bad
def e95:AV->Option CT
 | .int k _=>some (.int k)
 | .oint k _=>some (.int k)
 | .str _=>some .str
 | .ostr _=>some .str
 | .bool _=>none
 | .obool _=>none
 |_=>none
def yU:List AV->Option (List CT)
 | []=>some []
 |a::r=>match e95 a,yU r with
  |some c,some cs=>some (c::cs)
  |_,_=>none
def nT(sig:List CT)(sz:Nat):Nat->List AV->Option (List SX)
 |0,_=>some []
 |n+1,cs=>match jZ sig (cs.take sz),nT sig sz n (cs.drop sz)with
  |some e,some r=>some (.op .row e::r)
  |_,_=>none
def cR3(sz:Nat)(cs:List AV):Option (List CT×List SX):=match yU (cs.take sz)with
 |some sig=>bif Nat.beq cs.length (Nat.mul (Nat.div cs.length sz) sz)then(match nT sig sz (Nat.div cs.length sz) cs with
  |some rs=>some (sig,rs)
  |none=>none)else none
 |none=>none
def GA(P:Program)(t:TypeId)(sig:List CT)(l idx:SX)(j sz:Nat)(h:Heap):Res:=match LM P t,fe P t with
 |some true,some n=>bif Nat.beq sig.length sz&&Nat.ble (j+n) sz then .need (vA idx (.op .llen [l])) (.agg (Ek sig l idx j n)) h else .bad
 |some false,some _=>bif Nat.beq sig.length sz&&Nat.blt j sz then .need (vA idx (.op .llen [l])) (wc (sig.getD j .bool) (.op .lget [l,idx,.ci j])) h else .bad
 |_,_=> .bad
def Np(P:Program)(t:TypeId)(h:Heap)(a:Option AV):Res:=match a with
 |some (.optr b idx j sz)=>match h.get b with
  |some (.arr _ sig l)=>GA P t sig l idx j sz h
  |some (.cells _ _ cs)=>(match cR3 sz cs with
   |some (sig,rs)=>GA P t sig (.op .row rs) idx j sz h
   |none=> .bad)
  |some (.vec cs)=> .bad
  |_=> .bad
 |_=> .bad
def cC6(off len:SX)(sz:Nat)(x:Option Blk)(h:Heap):Res:=match x with
 |some (.arr _ [.int .u8] l)=> .bad
 |_=> .bad
def cC7(o n:Nat)(x:Option Blk)(h:Heap):Res:= .bad
def d09(a:Option AV)(h:Heap):Res:= .bad
def d14(e:TypeId)(a:Option AV)(h:Heap):Res:= .bad
def NY(P:Program)(s d:TypeId)(h:Heap)(a:Option AV):Res:=match P.underlying s,P.underlying d with
 |some _,some (.int k)=>match a with
  |some (.oint _ e)=> .val (.oint k (.op (.conv k) [e])) h
  |_=> .bad
 |some (.slice e),some .string=> .bad
 |some .string,some (.slice e)=> .bad
 |some _,some .string=> .bad
 |_,_=> .bad
def iE:List CT->List CT->Bool
 | [],[]=>true
 |a::x,b::y=>decide (a=b)&&iE x y
 |_,_=>false
def Mp(a b:SX):SX:=bif SX.beq a b then .cb true else .op (.cmp .eql) [a,b]
def e16:SX->Bool
 | .app _ _=>true
 |_=>false
def OS(sz:Nat)(y:AV)(h:Heap):Option (List CT×SX×SX):=match y with
 | .ous b len s=>match h.get b with
   |some (.arr _ sig l)=>bif Nat.beq s sz&&Nat.beq sig.length sz then(bif e16 len then some (sig,.op .and [.op (.cmp .leq) [.ci 0,len],.op (.cmp .leq) [len,.op .llen [l]]],.op .lsub [l,.ci 0,len])else some (sig,Mp len (.op .llen [l]),l))else none
   |_=>none
 | .osl b off len s=>match h.get b with
   |some (.arr _ sig l)=>bif Nat.beq s sz&&Nat.beq sig.length sz then bif SX.beq off (.ci 0)&&SX.beq len (.op .llen [l])then some (sig,.cb true,l)else some (sig,.op .and [.op (.cmp .leq) [.ci 0,off],.op .and [.op (.cmp .leq) [.ci 0,len],.op (.cmp .leq) [.op .iadd [off,len],.op .llen [l]]]],.op .lsub [l,off,.op .iadd [off,len]])else none
   |_=>none
 | .sl b o n _=>match h.get b with
   |some (.cells _ _ cs)=>bif Nat.ble (o+n*sz) cs.length&&Nat.blt 0 n then(match yU ((cs.drop o).take sz)with
    |some sig=>match nT sig sz n ((cs.drop o).take (n*sz))with
     |some rs=>some (sig,.cb true,.op .row rs)
     |none=>none
    |none=>none)else none
   |_=>none
 | .us b o n s=>match h.get b with
   |some (.cells _ _ cs)=>bif Nat.ble (o+n*sz) cs.length&&Nat.blt 0 n&&Nat.beq s sz then(match yU ((cs.drop o).take sz)with
    |some sig=>match nT sig sz n ((cs.drop o).take (n*sz))with
     |some rs=>some (sig,.cb true,.op .row rs)
     |none=>none
    |none=>none)else none
   |_=>none
 |_=>none
def pN:Int:=1000000
def cR4(z:List AV)(y:AV):Option (List CT×SX×SX):=match kz y,yU z with
 |some (_,e),some sig=>(match jZ sig z with
  |some es=>some (sig,.op .and [.op (.cmp .leq) [.ci 0,e],.op (.cmp .leq) [e,.ci pN]],.op .lrep [e,.op .row es])
  |none=>none)
 |_,_=>none
def TI(P:Program)(yt sz:Nat)(z:List AV)(y:AV)(h:Heap):Option (List CT×SX×SX):=match P.underlying yt with
 |some (.slice _)=>OS sz y h
 |some .string=>none
 |some (.int _)=>cR4 z y
 |_=>none
def Ov(elem s:Nat)(sig:List CT)(x:AV)(h:Heap):Option (AV×Heap):=match x with
 | .sl b o n c=>match h.get b with
   |some (.cells e fz cs)=>bif Nat.beq e elem&&Nat.ble h.wm b&&Nat.ble fz o&&Nat.ble (o+c*s) cs.length&&Nat.ble n c&&Nat.beq sig.length s&&Nat.blt h.next 65536 then(match nT sig s n ((cs.drop o).take (n*s))with
    |some rs=>some (.ous h.next (.op .llen [.op .row rs]) s,(h.put b none).new (.arr elem sig (.op .row rs)))
    |none=>none)else none
   |_=>none
 | .us b o n s'=>match h.get b with
   |some (.cells e fz cs)=>bif Nat.beq e elem&&Nat.ble h.wm b&&Nat.ble fz o&&Nat.ble (o+n*s) cs.length&&Nat.beq s' s&&Nat.beq sig.length s&&Nat.blt h.next 65536&&Nat.blt 0 s then(match nT sig s n ((cs.drop o).take (n*s))with
    |some rs=>some (.ous h.next (.op .llen [.op .row rs]) s,(h.put b none).new (.arr elem sig (.op .row rs)))
    |none=>none)else none
   |_=>none
 | .ous b (.ci 0) s'=>none
 |_=>none
def rD(l y:SX):SX:=match l with
 | .op .row []=>y
 |l=> .op .lcat [l,y]
def Hu(elem s:Nat)(sig:List CT)(nd ly:SX)(x:AV)(h:Heap):Res:=match x with
 | .nils=>bif !(Nat.blt h.next 65536)then .bad else .need (jf nd (.op (.cmp .leq) [.op .llen [ly],.ci pN])) (.ous h.next (.op .llen [ly]) s) (h.new (.arr elem sig ly))
 | .ous b len sz=>match h.get b with
   |some (.arr e sig' l)=>bif Nat.beq sz s&&Nat.beq e elem&&iE sig' sig&&Nat.ble h.wm b&&Nat.blt h.next 65536&& !(Nat.beq e jM)then
    .need (jf nd (jf (Mp len (.op .llen [l])) (.op (.cmp .leq) [.op .llen [rD l ly],.ci pN]))) (.ous h.next (.op .llen [rD l ly]) s) ((h.put b none).new (.arr elem sig (rD l ly)))else .bad
   |_=> .bad
 |_=> .bad
def dq3(elem s:Nat)(sig:List CT)(nd ly:SX)(x:AV)(h:Heap)(p:Option (AV×Heap)):Res:=match p with
 |some p=>Hu elem s sig nd ly p.1 p.2
 |none=>Hu elem s sig nd ly x h
def Sz(P:Program)(ts:Array TypeId)(x y:AV)(h:Heap):Res:=match(ts[0]?).bind P.underlying,ts[1]? with
 |some (.slice elem),some yt=>match P.info? elem,jk P elem with
  |some i,some z=>match TI P yt i.size z.cells y h with
   |some (sig,nd,ly)=>bif Nat.blt 0 i.size&&Nat.beq z.cells.length i.size&&Nat.ble i.bytes 1000&&Nat.beq ts.size 2&&Nat.beq sig.length i.size&& !(gv P elem)then dq3 elem i.size sig nd ly x h (Ov elem i.size sig x h)else .bad
   |none=> .bad
  |_,_=> .bad
 |_,_=> .bad
def UG(P:Program)(b:Nat)(off len:SX)(sz:Nat)(z:List AV)(x:Option Blk)(h:Heap):Res:=match x with
 |some (.arr e sig l)=>(match jZ sig z with
  |some es=>bif Nat.beq sig.length sz&&Nat.blt 0 sz&&Nat.ble h.wm b&& !(Nat.beq e jM)&& !(gv P e)then
   .need (.op .and [.op .and [.op (.cmp .leq) [.ci 0,off],.op (.cmp .leq) [.ci 0,len]],.op .and [.op (.cmp .leq) [len,.ci pN],.op (.cmp .leq) [.op .iadd [off,len],.op .llen [l]]]]) .undef (h.put b (some (.arr e sig (.op .lcat [.op .lsub [l,.ci 0,off],.op .lcat [.op .lrep [len,.op .row es],.op .lsub [l,.op .iadd [off,len],.op .llen [l]]]]))))else .bad
  |none=> .bad)
 |_=> .bad
def RB(P:Program)(t:Option TypeDesc)(x:AV)(h:Heap):Res:=match t with
 |some (.slice elem)=>(match jk P elem with
  |some z=>bif gv P elem then .bad else(match x with
   | .osl b off len sz=>UG P b off len sz z.cells (h.get b) h
   | .ous b len sz=> .bad
   |_=> .bad)
  |none=> .bad)
 |_=> .bad
def dM3(P:Program)(ts:Array TypeId)(x y:AV)(h:Heap):Res:= .bad
def ld(l idx:SX):Nat->Nat->List SX
 |_,0=>[]
 |j,n+1=> .op .lget [l,idx,.ci j]::ld l idx (j+1) n
def Kk:List CT->Nat->Nat->SX
 | [],_,_=> .cb true
 |c::r,i,j=>jf (match c with
  | .int _=> .op (.cmp .eql) [.va i,.va j]
  | .str=> .op (.scmp .eql) [.va i,.va j]
  | .bool=> .op .beq [.va i,.va j]) (Kk r (i+1) (j+1))
def sc:List CT->Nat->List AV
 | [],_=>[]
 |c::r,i=>wc c (.va i)::sc r (i+1)
def tQ(P:Program)(kt:TypeId)(ks:List CT):Bool:=sf P kt (.agg (sc ks 0))&&(match Fj P 10000 kt (.agg (sc ks 0)) (.agg (sc ks ks.length))with
 |some e=>SX.beq e (Kk ks 0 ks.length)
 |none=>false)
def e96:AV->Bool
 | .agg _=>true
 |_=>false
def mi(ks:List CT)(l:SX)(es:List SX):SX:= .op (.mfind ks) [l,.op .row es]
def gQ(ks:List CT)(l:SX)(es:List SX):SX:= .op (.cmp .lss) [mi ks l es,.op .llen [l]]
def mu(ks:List CT)(l:SX)(es:List SX):List CT->Nat->List SX->List AV
 |c::cs,j,z::zs=>wc c (.op .ite [gQ ks l es,.op .lget [l,mi ks l es,.ci j],z])::mu ks l es cs (j+1) zs
 |_,_,_=>[]
def lW:List AV->AV
 | [v]=>v
 |vs=> .agg vs
def wx(vs:List CT)(z:AV):Bool:=match vs with
 | []=>false
 | [_]=>false
 |_=>e96 z
def BG(ks:List CT)(es zs:List SX)(l:SX):SX:=match l with
 | .op .ite [c,l0,.op .lcat [l1,.op .row [.op .row ez]]]=>bif SX.beq c (gQ ks l0 es)&&SX.beq l1 l0&&SX.beqs ez (es++zs)then l0 else l
 |l=>l
def Ta(P:Program)(kt et:TypeId)(h:Heap)(b:Option Blk)(cs:List AV)(ok:Bool):Res:=match b,jk P et with
 |some (.marr _ ks vs l),some z=>match jZ ks cs,jZ vs z.cells with
  |some es,some zs=>bif tQ P kt ks&&Nat.ble 2 ks.length&&wx vs z then .val (bif ok then .tup [lW (mu ks l es vs ks.length zs),.obool (gQ ks l es)]else lW (mu ks (BG ks es zs l) es vs ks.length zs)) h else .bad
  |_,_=> .bad
 |_,_=> .bad
def Kt(P:Program)(t:TypeId)(h:Heap)(m k:Option AV)(ok:Bool):Res:=match P.underlying t with
 |some (.map kt et)=>match m with
  |some (.map r)=>match k with
   |some (.agg cs)=>Ta P kt et h (h.get r) cs ok
   |_=> .bad
  |_=> .bad
 |_=> .bad
def HU(ks:List CT)(l:SX)(es xs:List SX):SX:= .op .ite [gQ ks l es,.op .lset [l,mi ks l es,.op .row (es++xs)],.op .lcat [l,.op .row [.op .row (es++xs)]]]
def Xb(P:Program)(kt:TypeId)(h:Heap)(r:Nat)(b:Option Blk)(ks vs:List CT)(z:AV)(cs:List AV)(x:AV):Res:=match jZ ks cs,jZ vs x.cells with
 |some es,some xs=>bif tQ P kt ks&&Nat.ble 2 ks.length&&wx vs x&&Nat.ble h.wm r then(match b with
  |some (.marr d ks' vs' l)=>bif iE ks' ks&&iE vs' vs then .val .undef (h.put r (some (.marr d ks vs (HU ks l es xs))))else .bad
  |some (.map [] c)=> .val .undef (h.put r (some (.marr (Nat.beq c 0) ks vs (.op .row [.op .row (es++xs)]))))
  |_=> .bad)else .bad
 |_,_=> .bad
def Pf(P:Program)(t:TypeId)(h:Heap)(m k x:Option AV):Res:=match P.underlying t with
 |some (.map kt et)=>match m with
  |some (.map r)=>match k with
   |some (.agg cs)=>match x with
    |some x=>match jk P kt,jk P et with
     |some zk,some z=>match yU zk.cells,yU z.cells with
      |some ks,some vs=>Xb P kt h r (h.get r) ks vs z cs x
      |_,_=> .bad
     |_,_=> .bad
    |none=> .bad
   |_=> .bad
  |_=> .bad
 |_=> .bad
def XD(P:Program)(kt:TypeId)(h:Heap)(r:Nat)(b:Option Blk)(cs:List AV):Res:=match b with
 |some (.marr _ ks vs l)=>match jZ ks cs with
  |some es=>bif tQ P kt ks&&Nat.ble 2 ks.length&&Nat.ble h.wm r then .need (.cb true) .undef (h.put r (some (.marr false ks vs (.op (.mdel ks) [l,.op .row es]))))else .bad
  |none=> .bad
 |_=> .bad
def UT(P:Program)(u:Option TypeDesc)(h:Heap)(m k:AV):Res:=match u with
 |some (.map kt _)=>match m with
  | .map r=>match k with
    | .agg cs=>XD P kt h r (h.get r) cs
    |_=> .bad
  |_=> .bad
 |_=> .bad
def Jw(P:Program)(b:Builtin)(ts:Array TypeId)(h:Heap)(args:Option (List AV)):Res:=match args with
 |some [x]=>match b with
  | .len=>MR P ((ts[0]?).bind P.underlying) h x
  | .unsafeSliceData=> .bad
  | .clear=>RB P ((ts[0]?).bind P.underlying) x h
  |_=> .bad
 |some [x,y]=>match b with
  | .append=>Sz P ts x y h
  | .unsafeString=> .bad
  | .copy=>dM3 P ts x y h
  | .delete=>UT P ((ts[0]?).bind P.underlying) h x y
  |_=>Kj b x y h
 |_=> .bad
def Mz(P:Program)(ρ:Operand->Option AV)(c:Call)(h:Heap):Res:=match c.callee with
 | .builtin b=>Jw P b c.argTypes h (evs ρ c.args.toList)
 |_=> .bad
def cc1(e:Nat)(sig:List CT)(l idx:SX)(b j n:Nat)(h:Heap)(es:Option (List SX)):Res:=match es with
 |some es=> .need (vA idx (.op .llen [l])) .undef (h.put b (some (.arr e sig (.op .lset [l,idx,.op .row (ld l idx 0 j++(es++ld l idx (j+n) (sig.length-(j+n))))]))))
 |none=> .bad
def cc2(P:Program)(b:Nat)(idx:SX)(j sz n:Nat)(v:AV)(h:Heap)(x:Option Blk):Res:=match x with
 |some (.arr e sig l)=>bif Nat.beq sig.length sz&&Nat.ble (j+n) sz&&v.nt&&Nat.beq v.cells.length n&&Nat.ble h.wm b&&Nat.blt 0 n&& !(gv P e)&& !(Nat.beq e jM)then cc1 e sig l idx b j n h (jZ ((sig.drop j).take n) v.cells)else .bad
 |_=> .bad
def Qm(P:Program)(t:TypeId)(h:Heap)(a v:Option AV):Res:=match a,v,fe P t with
 |some (.optr b idx j sz),some v,some n=>cc2 P b idx j sz n v h (h.get b)
 |_,_,_=> .bad
def Jo(x:Option (Option AV))(d:SX):Option SX:=match x with
 |some none=>some d
 |some (some v)=>(kz v).map (·.2)
 |none=>none
def Ve(lo hi n:SX):SX:=jf (bif SX.beq lo (.ci 0)then .cb true else .op (.cmp .leq) [.ci 0,lo]) (jf (.op (.cmp .leq) [lo,hi]) (bif SX.beq hi n then .cb true else .op (.cmp .leq) [hi,n]))
def LB(a b:SX):SX:=match b with
 | .ci 0=>a
 |b=> .op .isub [a,b]
def dq6(s:SX)(h:Heap)(lo hi:Option SX):Res:=match lo,hi with
 |some lo,some hi=> .bad
 |_,_=> .bad
def dq7(b:Nat)(off len:SX)(sz:Nat)(h:Heap)(lo hi:Option SX):Res:=match lo,hi with
 |some lo,some hi=> .bad
 |_,_=> .bad
def Re(b:Nat)(len:SX)(sz:Nat)(h:Heap)(lo hi:Option SX):Res:=match lo,hi with
 |some lo,some hi=>bif SX.beq lo (.ci 0)then .need (Ve (.ci 0) hi len) (.ous b hi sz) h else .need (Ve lo hi len) (.osl b lo (LB hi lo) sz) h
 |_,_=> .bad
def Ni(P:Program)(t:TypeId)(h:Heap)(x:Option AV)(lo hi mx:Option (Option AV)):Res:=match x,mx with
 |some x,some none=>(match P.underlying t with
  |some .string=> .bad
  |some (.slice elem)=>(match fe P elem,x with
   |some s,.osl b off len sz=> .bad
   |some s,.ous b len sz=>bif Nat.beq s sz then Re b len sz h (Jo lo (.ci 0)) (Jo hi len)else .bad
   |_,_=> .bad)
  |_=> .bad)
 |_,_=> .bad
def rG(E:Env)(ρ:Operand->Option AV)(o:Oper)(h:Heap):Res:=
 match o.op with
 | .binOp op t x y _=>JV E.P op t x y h (ρ x) (ρ y)
 | .unOp op _ x=>Lg op h (ρ x)
 | .convert s d x=>NY E.P s d h (ρ x)
 | .pick c a b=>NV h (ρ c) (ρ a) (ρ b)
 | .load t a=>Np E.P t h (ρ a)
 | .indexAddr t x i=>NR E.P t h (ρ x) (ρ i)
 | .fieldAddr s x f=>Jv E.P s f h (ρ x)
 | .index t x i=>Zf E.P t h (ρ x) (ρ i)
 | .store t a x=>Qm E.P t h (ρ a) (ρ x)
 | .slice t x lo hi mx=>Ni E.P t h (ρ x) (fA ρ lo) (fA ρ hi) (fA ρ mx)
 | .lookup t m k ok=>Kt E.P t h (ρ m) (ρ k) ok
 | .mapUpdate t m k x=>Pf E.P t h (ρ m) (ρ k) (ρ x)
 | .insert t m k x=> .bad
 | .mapEntry t m k=> .bad
 | .entryStore _ m s x=> .bad
 | .call c=>Mz E.P ρ c h
 |_=> .bad
def dq8(r:Res)(s:Res):Res:=match r with
 | .bad=>s
 |r=>r
def fQ(E:Env)(ρ:Operand->Option AV)(o:Oper)(h:Heap):Res:=dq8 (nZ E ρ o h) (rG E ρ o h)
def oX(o:Oper):Bool:=
 match o.op with
 | .move _| .pick .. | .alloc _| .box .. | .build .. | .buildSlice .. | .load .. | .nilCheck _| .binOp .. | .unOp .. | .makeInterface .. | .makeFunc ..
 | .makeMap .. | .makeSlice .. | .slice .. | .fieldAddr .. | .field .. | .indexAddr .. | .index .. | .lookup .. | .extract .. | .convert .. | .typeAssert .. =>true
 | .call {callee:= .builtin .len,..}| .call {callee:= .builtin .cap,..}| .call {callee:= .builtin .min,..}| .call {callee:= .builtin .max,..}=>true
 |_=>false
def ia(o:Oper):Bool:=
 match o.op with
 | .alloc _| .box .. | .buildSlice .. | .makeMap .. | .makeSlice .. =>true
 |_=>false
def qc(e:Edge):Bool:=match e.ground with
 | .textOnly _| .gcOnly _=>false
 |_=>true
def xV(acc:List Nat):List Edge->Nat
 | []=>0
 |e::r=>bif qc e then(2^e.on|||acc.getD e.on 0)|||xV acc r else xV acc r
def JH:List Oper->List Nat->Option (List Nat)
 | [],acc=>some acc
 |o::r,acc=>bif o.after.toList.all (λe=> !qc e||Nat.blt e.on acc.length)then JH r (acc++[xV acc o.after.toList])else none
def cR5:Operand->List Nat
 | .tmp t=>[t]
 |_=>[]
def oP(ops:List Oper)(o:Oper):List Nat:=
 o.op.operands.toList.flatMap cR5++(match o.guard with
  |some (j,_)=>match ops[j]? with
   |some g=>g.dst.toList
   |none=>[]
  |none=>[])
structure PO where
 i:Nat
 o:Oper
 m:Nat
 fl:Bool
def sm:List Oper->List Nat->Nat->List PO
 |o::r,m::ms,i=>⟨i,o,m,oX o⟩::sm r ms (i+1)
 |_,_,_=>[]
def Tc(done:Nat):List PO->List PO×List PO×Nat
 | []=>([],[],done)
 |x::r=>bif x.fl&&Nat.beq (x.m&&&done) x.m then
  let (a,b,d):=Tc (done|||2^x.i) r
  (x::a,b,d)
  else
   let (a,b,d):=Tc done r
   (a,x::b,d)
def Zz:Nat->Nat->List PO->List PO
 |0,_,l=>l
 |f+1,done,l=>
  match Tc done l with
  |(a,b,d)=>match b.find? (λx=> !x.fl)with
   |none=>a++b
   |some c=>a++c::Zz f (d|||2^c.i) (b.filter λx=> !(Nat.beq x.i c.i))
def CD(o:Oper)(t:Nat):Bool:=match o.dst with
 |some d=>Nat.beq d t
 |none=>false
def d19(ops:List Oper)(l:List PO):Bool:=
 l.all λx=>((oP ops x.o).all λt=>l.all λy=> !(CD y.o t)||x.m.testBit y.i||(!y.fl&&y.m.testBit x.i))&&
  (match x.o.dst with
  |none=>true
  |some d=>l.all λy=> !(CD y.o d)||Nat.beq x.i y.i)
def d20(l:List PO):Bool:=
 l.all λx=>x.fl||l.all λy=>y.fl|| !(Nat.blt y.i x.i)||x.m.testBit y.i
def eager:Nat->List PO->Bool
 |_,[]=>true
 |done,x::r=>Nat.beq (x.m&&&done) x.m&& !(done.testBit x.i)&&(x.fl||r.all (λy=> !y.fl|| !(Nat.beq (y.m&&&done) y.m)))&&eager (done|||2^x.i) r
def Vs(ops:List Oper)(l:List PO):List PO:=(Zz (ops.length+1) 0 l).filterMap λy=>l[y.i]?
def HV(ops:List Oper):Option (List PO):=
 match JH ops []with
 |none=>none
 |some ms=>bif d19 ops (sm ops ms 0)&&d20 (sm ops ms 0)&&eager 0 (Vs ops (sm ops ms 0))&&
  (sm ops ms 0).all (λx=>(Vs ops (sm ops ms 0)).any λy=>Nat.beq x.i y.i)then some (Vs ops (sm ops ms 0))else none
mutual
def AV.beq:AV->AV->Bool
 | .bool a,.bool b=>a==b
 | .int k a,.int k' b=>decide (k=k')&&oc a b
 | .str a,.str b=>Bu a b
 | .nilp,.nilp| .nils,.nils| .es0,.es0| .nilm,.nilm| .nilf,.nilf| .nili,.nili=>true
 | .ptr a b,.ptr c d=>Nat.beq a c&&Nat.beq b d
 | .glob a,.glob b| .map a,.map b| .opq a,.opq b=>Nat.beq a b
 | .ostr a,.ostr b| .obool a,.obool b=>SX.beq a b
 | .osl a b c d,.osl a' b' c' d'=>Nat.beq a a'&&SX.beq b b'&&SX.beq c c'&&Nat.beq d d'
 | .optr a b c d,.optr a' b' c' d'=>Nat.beq a a'&&SX.beq b b'&&Nat.beq c c'&&Nat.beq d d'
 | .ous a b c,.ous a' b' c'=>Nat.beq a a'&&SX.beq b b'&&Nat.beq c c'
 | .any,.any=>false
 | .atl a,.atl b=>false
 | .oint k a,.oint k' b=>decide (k=k')&&SX.beq a b
 | .es a b c,.es a' b' c'=>false
 | .sl a b c d,.sl a' b' c' d'=>Nat.beq a a'&&Nat.beq b b'&&Nat.beq c c'&&Nat.beq d d'
 | .us a b c d,.us a' b' c' d'=>Nat.beq a a'&&Nat.beq b b'&&Nat.beq c c'&&Nat.beq d d'
 | .func f a b,.func g c d=>decide (f=g)&&AV.beqs a c&&AV.beqs b d
 | .iface t v,.iface u w=>false
 | .agg a,.agg b| .tup a,.tup b=>AV.beqs a b
 |_,_=>false
def AV.beqs:List AV->List AV->Bool
 | [],[]=>true
 |a::x,b::y=>AV.beq a b&&AV.beqs x y
 |_,_=>false
end
mutual
def gb(v0:Nat):SX->Bool
 | .va m=>Nat.blt m v0
 | .op _ l=>qD v0 l
 | .app _ l=>qD v0 l
 |_=>true
def qD(v0:Nat):List SX->Bool
 | []=>true
 |a::r=>gb v0 a&&qD v0 r
end
mutual
def hI(v0 nb:Nat):AV->Bool
 | .bool _| .int _ _| .str _| .nilp| .glob _| .nils| .es0| .nilm| .nilf| .nili| .opq _| .atl _| .any=>true
 | .ptr b _=>Nat.blt b nb
 | .sl b _ _ _=>Nat.blt b nb
 | .us b _ _ _=>false
 | .es b _ _=>false
 | .map b=>Nat.blt b nb
 | .yield b=>false
 | .func _ x y=>pF v0 nb x&&pF v0 nb y
 | .iface _ v=>false
 | .agg l=>pF v0 nb l
 | .tup l=>pF v0 nb l
 | .oint _ e=>gb v0 e
 | .ostr e=>gb v0 e
 | .obool e=>gb v0 e
 | .osl b x y _=>Nat.blt b nb&&gb v0 x&&gb v0 y
 | .optr b x _ _=>Nat.blt b nb&&gb v0 x
 | .ous b x _=>Nat.blt b nb&&gb v0 x
def pF(v0 nb:Nat):List AV->Bool
 | []=>true
 |a::r=>hI v0 nb a&&pF v0 nb r
end
def Bg(v0:Nat)(e:SX):Option Nat:=match e with
 | .va m=>bif Nat.ble v0 m then some (m-v0)else none
 |_=>none
def mM(v0 n:Nat)(p x:SX):Option (List SX):=match Bg v0 p with
 |some m=>bif Nat.beq m n then some [x]else none
 |none=>bif SX.beq p x&&gb v0 x then some []else none
def ww(v0 n:Nat)(p:SX)(x:Option SX):Option (List SX):=match x with
 |some x=>mM v0 n p x
 |none=>none
def KS(v0 n:Nat)(k:IntKind)(p:SX)(x:Option (IntKind×SX)):Option (List SX):=match x with
 |some (k',x)=>if k=k' then mM v0 n p x else none
 |none=>none
def Bm(v0 n:Nat)(p q x y:SX):Option (List SX):=match mM v0 n p x with
 |some es=>match mM v0 (n+es.length) q y with
  |some fs=>some (es++fs)
  |none=>none
 |none=>none
def Fk(v0 nb n b:Nat)(p q:SX)(s:Nat)(x:AV):Option (List SX):=match x with
 | .osl b' x y s'=>bif Nat.beq b b'&&Nat.beq s s'&&Nat.blt b nb then Bm v0 n p q x y else none
 |_=>none
def GE(v0 nb n b:Nat)(p:SX)(s:Nat)(x:AV):Option (List SX):=match x with
 | .ous b' x s'=>bif Nat.beq b b'&&Nat.beq s s'&&Nat.blt b nb then mM v0 n p x else none
 |_=>none
mutual
def eu(v0 nb n:Nat):AV->AV->Option (List SX)
 | .any,_=>some []
 | .oint k p,x=>KS v0 n k p (kz x)
 | .ostr p,x=>ww v0 n p (oN x)
 | .obool p,x=>ww v0 n p (ut x)
 | .agg ps,.agg xs=>qZ v0 nb n ps xs
 | .osl b p q s,x=>Fk v0 nb n b p q s x
 | .ous b p s,x=>GE v0 nb n b p s x
 |p,x=>bif AV.beq p x&&hI v0 nb x then some []else none
def qZ(v0 nb n:Nat):List AV->List AV->Option (List SX)
 | [],[]=>some []
 |p::ps,x::xs=>match eu v0 nb n p x with
  |some e=>match qZ v0 nb (n+e.length) ps xs with
   |some es=>some (e++es)
   |none=>none
  |none=>none
 |_,_=>none
end
def JU(v0 nb:Nat):List Ent->List Ent->Bool
 | [],[]=>true
 |a::x,b::y=>false
 |_,_=>false
def pj(v0 nb n:Nat)(p x:Blk):Option (List SX):=match p,x with
 | .cells e fz ps,.cells e' fz' xs=>bif Nat.beq e e'&&Nat.beq fz fz'&&ps.all AV.oneA then qZ v0 nb n ps xs else none
 | .arr e sig p,.arr e' sig' x=>bif Nat.beq e e'&&iE sig sig' then mM v0 n p x else none
 | .map es c,.map es' c'=>bif JU v0 nb es es'&&Nat.beq c c' then some []else none
 | .marr d ks vs p,.marr d' ks' vs' x=>bif (!d||d')&&(iE ks ks'&&iE vs vs')then mM v0 n p x else none
 | .marr d _ _ p,.map [] c=>bif !d||Nat.beq c 0 then mM v0 n p (.op .row [])else none
 | .bag e sig p,.bag e' sig' x=>bif Nat.beq e e'&&iE sig sig' then mM v0 n p x else none
 |_,_=>none
def sH(v0 nb n:Nat)(p x:Option Blk):Option (List SX):=match p with
 |none=>some []
 |some p=>match x with
  |some x=>pj v0 nb n p x
  |none=>none
def JZ(v0 nb:Nat)(aP a:Fr):Nat->Nat->Nat->Option (List SX)
 |0,_,_=>some []
 |m+1,t,n=>match eu v0 nb n (aP.slot t) (a.slot t)with
  |some e=>match JZ v0 nb aP a m (t+1) (n+e.length)with
   |some es=>some (e++es)
   |none=>none
  |none=>none
def Mg(v0 nb:Nat)(hP h:Heap):Nat->Nat->Nat->Option (List SX)
 |0,_,_=>some []
 |m+1,b,n=>match sH v0 nb n (hP.get b) (h.get b)with
  |some e=>match Mg v0 nb hP h m (b+1) (n+e.length)with
   |some es=>some (e++es)
   |none=>none
  |none=>none
def sS(a:Fr):Bool:=a.ds.isEmpty&&a.ro.isNone
def sN(v0:Nat)(aP:Fr)(hP:Heap)(a:Fr)(h:Heap):Option (List SX):=
 bif sS aP&&sS a&&Nat.beq aP.nt a.nt&&Nat.ble hP.next h.next&&Nat.beq hP.wm h.wm then
  (match JZ v0 hP.next aP a aP.nt 0 0 with
  |some es=>match Mg v0 hP.next hP h hP.next 0 es.length with
   |some fs=>some (es++fs)
   |none=>none
  |none=>none)
 else none
def fw(a:Fr):List (Nat×AV)->Fr
 | []=>a
 |(t,v)::r=>fw (a.put (some t) v) r
def layDead(a:Fr):List Nat->Fr
 | []=>a
 |t::r=>layDead (a.put (some t) .any) r
def dr1(n:Nat)(t:TH)(_ wm:Nat):Heap:=⟨t,n,wm⟩
def Heap.upto(h:Heap)(n:Nat):Heap:=Heap.rec (dr1 n) h
def il(h:Heap):List (Nat×Option Blk)->Heap
 | []=>h
 |(b,x)::r=>il (h.put b x) r
def Kv(a:Fr)(b:Nat):Nat->Bool
 |0=>false
 |t+1=>(match a.slot t with
  | .ptr b' _=>Nat.beq b b'
  | .map b'=>Nat.beq b b'
  |_=>false)||Kv a b t
def dr2(h:Heap)(b:Nat):Bool:=match h.get b with
 |some (.arr _ _ _)=>true
 |_=>false
def XI(b:Nat):AV->Bool
 | .map b'=>Nat.beq b b'
 |_=>false
def dr4(b:Nat)(x:Option Blk):Bool:=match x with
 |some (.cells _ _ cs)=>cs.any (XI b)
 |_=>false
def TM(b:Nat)(h:Heap):AV->Bool
 | .ptr c _=>dr4 b (h.get c)
 |_=>false
def MF(a:Fr)(h:Heap)(b:Nat):Nat->Bool
 |0=>false
 |t+1=>(match a.slot t with
  | .func _ _ l=>false
  | .ptr c o=>TM b h (.ptr c o)
  |_=>false)||MF a h b t
def Ob(a:Fr)(h:Heap)(n0:Nat)(next:Nat)(l:List (Nat×Option Blk)):Bool:=l.all λp=>Nat.blt p.1 next&&(Nat.ble n0 p.1||Kv a p.1 a.nt||dr2 h p.1||MF a h p.1 a.nt)
def eN(v0:Nat)(q:Nat->SX)(e:SX):SX:=match Bg v0 e with
 |some m=>q m
 |none=>e
mutual
def pP(v0:Nat)(q:Nat->SX):AV->AV
 | .oint k e=> .oint k (eN v0 q e)
 | .ostr e=> .ostr (eN v0 q e)
 | .obool e=> .obool (eN v0 q e)
 | .agg l=> .agg (CY v0 q l)
 | .osl b x y s=> .osl b (eN v0 q x) (eN v0 q y) s
 | .ous b x s=> .ous b (eN v0 q x) s
 |x=>x
def CY(v0:Nat)(q:Nat->SX):List AV->List AV
 | []=>[]
 |a::r=>pP v0 q a::CY v0 q r
end
def zN(v0:Nat)(q:Nat->SX)(x:Option Blk):Option Blk:=match x with
 |some (.cells e fz cs)=>some (.cells e fz (CY v0 q cs))
 |some (.arr e sig l)=>some (.arr e sig (eN v0 q l))
 |some (.marr d ks vs l)=>some (.marr d ks vs (eN v0 q l))
 |some (.bag e sig l)=>some (.bag e sig (eN v0 q l))
 |x=>x
def AB(v0 nb:Nat):Option Blk->Bool
 |none=>true
 |some (.cells _ _ cs)=>pF v0 nb cs
 |some (.arr _ _ l)=>gb v0 l
 |some (.marr _ _ _ l)=>gb v0 l
 |some (.bag _ _ l)=>gb v0 l
 |some (.map es _)=>JU v0 nb es es
 |_=>false
def Bz(v0 nb:Nat)(a:Fr):Nat->Bool
 |0=>true
 |t+1=>hI v0 nb (a.slot t)&&Bz v0 nb a t
def Mk(v0 nb:Nat)(h:Heap):Nat->Bool
 |0=>true
 |t+1=>AB v0 nb (h.get t)&&Mk v0 nb h t
mutual
def iB(b:Nat):AV->Bool
 | .ptr c _=> !(Nat.beq c b)
 | .sl c _ _ _=> !(Nat.beq c b)
 | .us c _ _ _=>false
 | .es c _ _=>false
 | .map c=> !(Nat.beq c b)
 | .yield c=>false
 | .func _ x y=>wP b x&&wP b y
 | .iface _ v=>false
 | .agg l=>wP b l
 | .tup l=>wP b l
 | .osl c _ _ _=> !(Nat.beq c b)
 | .optr c _ _ _=> !(Nat.beq c b)
 | .ous c _ _=> !(Nat.beq c b)
 |_=>true
def wP(b:Nat):List AV->Bool
 | []=>true
 |a::r=>iB b a&&wP b r
end
def yR(b:Nat):Option Blk->Bool
 |none=>true
 |some (.cells _ _ cs)=>wP b cs
 |some (.arr _ _ _)=>true
 |some (.map es _)=>es.all λe=>iB b e.key&&iB b e.val
 |some (.marr _ _ _ _)=>true
 |some (.bag _ _ _)=>true
 |some (.mrg it _ _ _ _)=> !(Nat.beq it b)
 |some (.mit m)=> !(Nat.beq m b)
 |some (.vec cs)=>false
 |_=>false
def ti(b t:Nat)(a:Fr):Nat->Bool
 |0=>a.ds.isEmpty
 |s+1=>(Nat.beq s t||iB b (a.slot s))&&ti b t a s
def vW(b:Nat)(h:Heap):Nat->Bool
 |0=>true
 |s+1=>yR b (h.get s)&&vW b h s
def mX(o:OwnP)(a:Fr)(h:Heap)(l:SX):Fr×Heap:=(a.put (some o.slot) (.ous o.blk (.op .llen [l]) o.sig.length),h.put o.blk (some (.arr o.elem o.sig l)))
def Up(len l:SX):Bool:=SX.beq len (.op .llen [l])||(match len,l with
 | .ci 0,.op .row []=>false
 |_,_=>false)
def NB(o:OwnP)(a:Fr)(h:Heap):Option (Fr×Heap):=
 match a.slot o.slot with
 | .ous r len sz=>bif Nat.beq r o.blk then(match h.get r with
  |some (.arr e sig l)=>bif Nat.beq e o.elem&&iE sig o.sig&&Nat.beq sz sig.length then some (a,h)else none
  |_=>none)
  else bif Nat.blt o.slot a.nt&&Nat.blt o.blk h.next&&Nat.blt o.blk 65536&&(h.get o.blk).isNone&&ti o.blk o.slot a a.nt&&vW o.blk h h.next&&Nat.ble h.wm r then(match h.get r with
   |some (.arr e sig l)=>bif Nat.beq e o.elem&&iE sig o.sig&&Nat.beq sz sig.length&&Up len l then some (mX o a (h.put r none) l)else none
   |_=>none)else none
 | .nils=>bif Nat.blt o.slot a.nt&&Nat.blt o.blk h.next&&Nat.blt o.blk 65536&&(h.get o.blk).isNone&&ti o.blk o.slot a a.nt&&vW o.blk h h.next then some (mX o a h (.op .row []))else none
 | .us r 0 n sz=>bif Nat.blt o.slot a.nt&&Nat.blt o.blk h.next&&Nat.blt o.blk 65536&&(h.get o.blk).isNone&&ti o.blk o.slot a a.nt&&vW o.blk h h.next&&Nat.ble h.wm r&&Nat.blt 0 sz then(match h.get r with
  |some (.cells e 0 cs)=>bif Nat.beq e o.elem&&Nat.beq sz o.sig.length&&Nat.beq cs.length (n*sz)then(match nT o.sig sz n cs with
   |some rs=>some (mX o a (h.put r none) (.op .row rs))
   |none=>none)else none
  |_=>none)else none
 | .sl r p n c=>bif Nat.blt o.slot a.nt&&Nat.blt o.blk h.next&&Nat.blt o.blk 65536&&(h.get o.blk).isNone&&ti o.blk o.slot a a.nt&&vW o.blk h h.next&&Nat.ble h.wm r then(match h.get r with
  |some (.cells e fz cs)=>bif Nat.beq e o.elem&&Nat.ble fz p&&Nat.ble (p+c*o.sig.length) cs.length&&Nat.ble n c then(match nT o.sig o.sig.length n ((cs.drop p).take (n*o.sig.length))with
   |some rs=>some (mX o a (h.put r none) (.op .row rs))
   |none=>none)else none
  |_=>none)else none
 |_=>none
def e17:AV->Bool
 | .ous _ _ _=>false
 | .us _ _ _ _=>false
 | .sl _ _ _ _=>false
 |_=>true
def yI(o:OwnP)(a:Fr)(h:Heap):Heap:=match a.slot o.slot with
 | .ous r _ _=>bif Nat.beq r o.blk||(h.get o.blk).isNone then h else h.put o.blk none
 |_=>h
def cR9(o:OwnP)(a:Fr)(h:Heap):Option (Fr×Heap):=bif o.lz&&e17 (a.slot o.slot)then some (a,h)else NB o a (yI o a h)
def PS(o:OwnP)(a:Fr)(h:Heap):Option (Fr×Heap):=match o.cell with
 |none=>cR9 o a h
 |some p=>none
def CH:List OwnP->Fr->Heap->Option (Fr×Heap)
 | [],a,h=>some (a,h)
 |o::r,a,h=>match PS o a h with
  |some p=>CH r p.1 p.2
  |none=>none
def DJ:Ex->Ex->Bool
 | .norm,.norm=>false
 | .ret,.ret=>true
 | .exit a,.exit b=>Nat.beq a b
 |_,_=>false
structure Pend where
 i:Nat
 o:Oper
 v:AV
 nd:Option SX
inductive Task (R:Type)where
 |code (c:Code) (a:Fr) (h:Heap) (k:Ex->Fr->Heap->R)
 |loop (c:Code) (a:Fr) (h:Heap) (k:Ex->Fr->Heap->R)
 |ops (all rest:List Oper) (a:Fr) (h:Heap) (k:Fr->Heap->R)
 |dops (all:List Oper) (rest:List PO) (pend:List Pend) (a:Fr) (h:Heap) (k:Fr->Heap->R)
 |call (f:FuncId) (args:List AV) (h:Heap) (k:AV->Heap->R)
 |body (f:FuncId) (args:List AV) (h:Heap) (k:AV->Heap->R)
 |dbody (f:FuncId) (args:List AV) (h:Heap) (k:AV->Heap->R)
 |leave (rs:List ResultVar) (a:Fr) (ds:List ADef) (h:Heap) (k:AV->Heap->R)
abbrev PC:=List (SX×Bool)
structure Alg (R:Type)where
 bad:R
 amb:List (AV×Heap)->(AV×Heap->R)->R
 ite:SX->R->R->R
 need:SX->R->R
 loop:LHd->VT->List R->R
 mloop:LHd->SX->VT->List R->R
def wL:Alg Bool:=⟨false,λl f=>l.all f,λ_ x y=>x&&y,λ_ _=>false,λ_ _ _=>false,λ_ _ _ _=>false⟩
def TP:Alg (Option (AV×Heap)):=⟨none,λl f=>match l with
 |x::_=>f x
 | []=>none,λ_ _ _=>none,λ_ _=>none,λ_ _ _=>none,λ_ _ _ _=>none⟩
structure VC where
 pc:PC
 cl:SX
def cS0(p:Prim)(l:List SX):SX×Bool:=match p,l with
 | .cmp .geq,[a,b]=>(.op (.cmp .lss) [a,b],false)
 | .cmp .gtr,[a,b]=>(.op (.cmp .lss) [b,a],true)
 | .cmp .leq,[a,b]=>(.op (.cmp .lss) [b,a],false)
 | .cmp .neq,[a,b]=>(.op (.cmp .eql) [a,b],false)
 | .scmp .geq,[a,b]=>(.op (.scmp .lss) [a,b],false)
 | .scmp .gtr,[a,b]=>(.op (.scmp .lss) [b,a],true)
 | .scmp .leq,[a,b]=>(.op (.scmp .lss) [b,a],false)
 | .scmp .neq,[a,b]=>(.op (.scmp .eql) [a,b],false)
 |p,l=>(.op p l,true)
def CF(e:SX):SX×Bool:=match e with
 | .op p l=>cS0 p l
 |e=>(e,true)
def Nl(e:SX):PC->Option Bool
 | []=>none
 |p::r=>bif SX.beq e p.1 then some p.2 else Nl e r
def VG(a b:Bool):Bool:=bif a then b else !b
def PQ(c:SX×Bool)(pc:PC):Option Bool:=match Nl c.1 pc with
 |some b=>some (VG b c.2)
 |none=>none
def Ps(a b:Option Bool):Option Bool:=match a with
 |some false=>none
 |some true=>b
 |none=>match b with
  |some false=>some false
  |_=>none
def e18(a:Option Bool):Option Bool:=match a with
 |some b=>some (!b)
 |none=>none
def YJ(c a b:Option Bool):Option Bool:=match c with
 |some true=>a
 |some false=>b
 |none=>none
def cS1(k:SX->Option Bool)(p:Prim)(l:List SX):Option Bool:=match p,l with
 | .not,[a]=>e18 (k a)
 | .and,[a,b]=>Ps (k a) (k b)
 | .or,[a,b]=>none
 | .ite,[c,a,b]=>YJ (k c) (k a) (k b)
 |p,l=>Nb (.op p l)
def cS2(k:SX->Option Bool)(e:SX):Option Bool:=match e with
 | .cb b=>some b
 | .op p l=>cS1 k p l
 |_=>none
def Rt(pc:PC)(k:SX->Option Bool)(e:SX):Option Bool:=match PQ (CF e) pc with
 |some b=>some b
 |none=>cS2 k e
def pK(pc:PC)(n:Nat):SX->Option Bool:=Nat.rec (motive:=λ_=>SX->Option Bool) (λ_=>none) (λ_ k=>Rt pc k) n
def Zl(k:SX->Bool->PC)(p:Prim)(l:List SX)(b:Bool):PC:=match p,l with
 | .not,[a]=>k a (!b)
 | .and,[x,y]=>bif b then k x true++k y true else []
 | .or,[x,y]=>bif b then []else k x false++k y false
 | .ite,[c,x,.cb false]=>bif b then k c true++k x true else []
 | .ite,[c,.cb true,y]=>bif b then []else k c false++k y false
 |_,_=>[]
def SG(k:SX->Bool->PC)(e:SX)(b:Bool):PC:=match e with
 | .op p l=>Zl k p l b
 |_=>[]
def dr5(c:SX×Bool)(b:Bool):SX×Bool:=(c.1,VG c.2 b)
def dr6(k:SX->Bool->PC)(e:SX)(b:Bool):PC:=dr5 (CF e) b::SG k e b
def xe(n:Nat):SX->Bool->PC:=Nat.rec (motive:=λ_=>SX->Bool->PC) (λ_ _=>[]) (λ_ k=>dr6 k) n
abbrev iP:=PC->VT
def XG(pc:PC)(k:SX->SX)(p:Prim)(l:List SX):SX:=match p,l with
 | .ite,[c,a,b]=>(match pK pc 8 c with
   |some true=>k a
   |some false=>k b
   |none=> .op .ite [c,a,b])
 | .and,[a,b]=>(match pK pc 8 a with
   |some true=>k b
   |_=>(match pK pc 8 b with
    |some true=>k a
    |_=> .op .and [a,b]))
 | .or,[a,b]=>(match pK pc 8 a with
   |some false=>k b
   |_=>(match pK pc 8 b with
    |some false=>k a
    |_=> .op .or [a,b]))
 | .not,[a]=> .op .not [k a]
 |p,l=> .op p l
def Qb(pc:PC)(k:SX->SX)(e:SX):SX:=match e with
 | .op p l=>XG pc k p l
 |e=>e
def Fg(pc:PC)(n:Nat):SX->SX:=Nat.rec (motive:=λ_=>SX->SX) (λe=>e) (λ_ k=>Qb pc k) n
def Xd(pc:PC)(k:SX->SX)(p:Prim)(l:List SX):SX:=match p,l with
 | .ite,[c,a,b]=>(match pK pc 8 c with
   |some true=>k a
   |some false=>k b
   |none=> .op .ite [c,a,b])
 |p,l=> .op p l
def Qj(pc:PC)(k:SX->SX)(e:SX):SX:=match e with
 | .op p l=>Xd pc k p l
 |e=>e
def II(pc:PC)(n:Nat):SX->SX:=Nat.rec (motive:=λ_=>SX->SX) (λe=>e) (λ_ k=>Qj pc k) n
def RP(e:SX)(x y:iP)(pc:PC)(b:Option Bool):VT:=match b with
 |some true=>x pc
 |some false=>y pc
 |none=> .ite (Fg pc 16 e) (x (xe 8 e true++pc)) (y (xe 8 e false++pc))
def SM(e:SX)(x:iP)(pc:PC)(b:Option Bool):VT:=match b with
 |some true=>x pc
 |_=> .need (Fg pc 16 e) (x (xe 8 e true++pc))
def Qs(l:List (AV×Heap))(f:AV×Heap->iP)(pc:PC):VT:=match l with
 | [x]=>f x pc
 | [x,y]=> .both (f x pc) (f y pc)
 |_=> .bad
def wV(pc:PC):List iP->List VT
 | []=>[]
 |k::r=>k pc::wV pc r
def lJ:Alg iP:=⟨λ_=> .bad,λl f pc=>Qs l f pc,λe x y pc=>RP e x y pc (pK pc 8 e),λe x pc=>SM e x pc (pK pc 8 e),λhd body ks pc=> .loop hd body (wV pc ks),λhd l body ks pc=> .mloop hd l body (wV pc ks)⟩
def fp(all:List Oper)(a:Fr)(o:Oper):Option Bool:=
 match o.guard with
 |none=>some true
 |some (j,want)=>match(all[j]?).bind (·.dst)with
  |none=>none
  |some d=>bif Nat.blt d a.nt then match a.slot d with
   | .bool b=>some (b==want)
   | .obool e=>match yX e a.pc with
     |some b=>some (b==want)
     |none=>none
   | .opq _=>none
   | .any=>none
   |_=>some false
   else some false
def vP(all:List Oper)(a:Fr)(o:Oper):Option SX:=
 match o.guard with
 |none=>none
 |some (j,_)=>match(all[j]?).bind (·.dst)with
  |none=>none
  |some d=>match a.slot d with
   | .obool e=>some e
   |_=>none
def Vp(P:Program)(a:Fr)(h:Heap):ResultVar->Option AV
 | .tmp t=>some (a.slot t)
 | .cell x t=>Fw P t (a.slot x) h
def sB(P:Program)(a:Fr)(h:Heap):List ResultVar->Option (List AV)
 | []=>some []
 |r::l=>match Vp P a h r,sB P a h l with
  |some v,some vs=>some (v::vs)
  |_,_=>none
def VA:List AV->AV
 | [v]=>v
 |vs=> .tup vs
def uM:List AV->Nat->TF->TF
 | [],_,t=>t
 |v::r,i,t=>uM r (i+1) (t.set i v)
def e24(nd:Option SX)(e:SX):Bool:=match nd with
 |some x=>SX.beq x e
 |none=>false
def bN7(r:Res)(nd:Option SX)(v:AV):Bool:=match r with
 | .val v' _=>AV.beq v' v
 | .need e v' _=>e24 nd e&&AV.beq v' v
 |_=>false
def tZ(E:Env)(a:Fr)(h:Heap):List Pend->Bool
 | []=>true
 |p::r=>(ia p.o||bN7 (fQ E a.ev p.o h) p.nd p.v)&&tZ E a h r
def AR:AV->Bool
 | .bool _| .int _ _| .str _| .nilp| .nils| .nilm| .nilf| .nili| .oint _ _| .ostr _| .obool _=>true
 |_=>false
inductive Out where
 |plain (v:AV)
 |row (elem:Nat) (len sz:Nat) (cs:List AV)
 deriving Inhabited
def UY(wm:Nat)(h:Heap)(v:AV):Option Out:=
 match v with
 | .us b 0 len sz=>bif Nat.ble wm b then match h.get b with
   |some (.cells e 0 cs)=>bif Nat.beq cs.length (len*sz)&&cs.all AR then some (.row e len sz cs)else none
   |_=>none
   else none
 |v=>none
def uB(wm:Nat)(h:Heap):List AV->Option (List Out)
 | []=>some []
 |v::r=>match UY wm h v,uB wm h r with
  |some o,some os=>some (o::os)
  |_,_=>none
def tg:List Out->Nat
 | []=>0
 | .plain _::r=>tg r
 | .row _ _ _ _::r=>tg r+1
def Va(b:Bool)(l:List Out):Option (Bool×List Out):=bif Nat.ble (tg l) 1 then some (b,l)else none
def BP(wm:Nat)(h:Heap)(v:AV):Option (Bool×List Out):=
 match v with
 | .tup vs=>none
 |v=>(uB wm h [v]).bind (Va false)
def Out.beq:Out->Out->Bool
 | .plain a,.plain b=>false
 | .row e l s c,.row e' l' s' c'=>Nat.beq e e'&&Nat.beq l l'&&Nat.beq s s'&&AV.beqs c c'
 |_,_=>false
def Kf:List Out->List Out->Bool
 | [],[]=>true
 |a::x,b::y=>Out.beq a b&&Kf x y
 |_,_=>false
def YR(x y:Option (Bool×List Out)):Bool:=
 match x,y with
 |some (a,l),some (b,m)=>(a==b)&&Kf l m
 |_,_=>false
def mq:List Out->Heap->List AV×Heap
 | [],h=>([],h)
 | .plain v::r,h=>let (vs,h'):=mq r h;(v::vs,h')
 | .row e len sz cs::r,h=>let (vs,h'):=mq r (h.new (.cells e 0 cs));(.us h.next 0 len sz::vs,h')
def Oh(b:Bool)(l:List Out)(h:Heap):AV×Heap:=
 match mq l h with
 |(vs,h')=>(bif b then .tup vs else vs.headD .undef,h')
def dr9(t:TH)(next _:Nat):Heap:=⟨t,next,next⟩
def Heap.raise(h:Heap):Heap:=Heap.rec dr9 h
abbrev eK:=(R:Type)->Alg R->Task R->R
section
variable{R:Type}
def e25(rec:eK)(A:Alg R)(y:Code)(k:Ex->Fr->Heap->R)(e:Ex)(a:Fr)(h:Heap):R:=match e with
 | .norm=>rec R A (.code y a h k)
 |e=>k e a h
def Lb(id:Nat)(k:Ex->Fr->Heap->R)(e:Ex)(a:Fr)(h:Heap):R:=match e with
 | .exit i=>bif Nat.beq i id then k .norm a h else k (.exit i) a h
 |e=>k e a h
def dN0(rec:eK)(A:Alg R)(c:Code)(k:Ex->Fr->Heap->R)(e:Ex)(a:Fr)(h:Heap):R:=match e with
 | .norm=>rec R A (.loop c a h k)
 |e=>k e a h
def EL(ro:Option Nat)(k:Ex->Fr->Heap->R)(a:Fr)(h:Heap):R:=k .norm (a.back ro) h
def YH(rec:eK)(A:Alg R)(x y:Code)(a:Fr)(h:Heap)(k:Ex->Fr->Heap->R)(e:SX)(p:Option Bool):R:=match p with
 |some b=>rec R A (.code (bif b then x else y) a h k)
 |none=>A.ite e (rec R A (.code x (a.cond (e,true)) h k)) (rec R A (.code y (a.cond (e,false)) h k))
def PL(rec:eK)(A:Alg R)(x y:Code)(a:Fr)(h:Heap)(k:Ex->Fr->Heap->R)(v:Option AV):R:=match v with
 |some (.bool b)=>rec R A (.code (bif b then x else y) a h k)
 |some (.obool e)=>YH rec A x y a h k e (yX e a.pc)
 |_=>A.bad
def Ai:Code->Nat
 | .region id _ _=>id
 | .seq x _=>Ai x
 | .block _ b=>Ai b
 | .loop b=>Ai b
 | .scope b=>Ai b
 |_=>0
structure LSt where
 a:Fr
 h:Heap
def gD(id:Nat)(args:List SX)(j:Nat):SX:= .op .lget [.app id args,.ci 1,.ci j]
def dQ(sp:LSpec)(a:Fr)(h:Heap):LSt:=⟨(fw (layDead a sp.dead) sp.head.slots).clear,il h sp.head.blks⟩
def fR(sp:LSpec)(a:Fr)(h:Heap):LSt:=⟨layDead (layDead a sp.dead) (sp.head.slots.map (·.1)),il h (sp.head.blks.map λp=>(p.1,none))⟩
def im(sp:LSpec)(a:Fr)(h:Heap)(x:StP):LSt:=⟨(fw (fR sp a h).a x.slots).clear,(il (fR sp a h).h x.blks).upto x.next⟩
def kF(sp:LSpec)(q:Nat->SX)(a:Fr)(h:Heap)(x:StP):LSt:=
 ⟨fw (fR sp a h).a (x.slots.map λp=>(p.1,pP sp.v0 q p.2)),(il (fR sp a h).h (x.blks.map λp=>(p.1,zN sp.v0 q p.2))).upto x.next⟩
def tX(sp:LSpec)(a:Fr)(h:Heap)(e:Ex)(a':Fr)(h':Heap):List (Ex×StP)->Nat->VT
 | [],_=> .bad
 |x::r,i=>bif DJ x.1 e then(match sN sp.v0 (im sp a h x.2).a (im sp a h x.2).h a' h' with
  |some es=> .ret (i+1) es
  |none=>tX sp a h e a' h' r (i+1))else tX sp a h e a' h' r (i+1)
def iZ(sp:LSpec)(a:Fr)(h:Heap):Fr×Heap:=match CH sp.owns (layDead a sp.dead) h with
 |some p=>p
 |none=>(layDead a sp.dead,h)
def SP(p:Prim)(l:List SX):Bool:=match p,l with
 | .cmp .leq,[.ci 0,.op .llen [_]]=>true
 | .cmp .leq,[.ci 0,.op .slen [_]]=>false
 | .cmp .leq,[.ci a,.ci b]=> !(lO b a)
 | .cmp .lss,[.ci a,.ci b]=>false
 |_,_=>false
def Gk(e:SX):Bool:=match e with
 | .cb b=>b
 | .op p l=>SP p l
 |_=>false
def HI(e:SX):Bool:=match e with
 | .op .and [a,b]=>Gk a&&Gk b
 |e=>Gk e
def DQ(e:SX):Bool:=match e with
 | .op .and [a,b]=>HI a&&HI b
 |e=>HI e
def Mb(p:Prim)(l:List SX):Bool:=match p,l with
 | .cmp .leq,[.ci a,.ci b]=>false
 | .cmp .lss,[.ci a,.ci b]=>false
 | .bok,[.op .row []]=>false
 |_,_=>false
def WN(p:Prim)(l:List SX):SX:=bif Mb p l then .cb true else .op p l
def Hj:Nat->SX->SX
 |0,e=>e
 |n+1,e=>match e with
  | .op .and [a,b]=>jf (Hj n a) (Hj n b)
  | .op p l=>WN p l
  |e=>e
def WI(e:SX):Bool:=match e with
 | .op .and [.op .and [.op .and [_,_],_],_]=>true
 |_=>false
def ds2(A:Alg R)(e:SX)(x:R):R:=match e with
 | .cb true=>x
 |e=>A.need e x
def needA(A:Alg R)(e:SX)(x:R):R:=bif DQ e then x else bif WI e then ds2 A (Hj 30 e) x else A.need e x
def pI(o:OwnP)(a:Fr)(h:Heap):SX×Fr:=match o.cell,a.slot o.slot with
 |none,.ous r len s=>(match h.get r with
  |some (.arr _ _ l)=>bif Nat.beq r o.blk||SX.beq len (.op .llen [l])then(.cb true,a)else(.op (.cmp .eql) [len,.op .llen [l]],a.put (some o.slot) (.ous r (.op .llen [l]) s))
  |_=>(.cb true,a))
 |_,_=>(.cb true,a)
def fH:List OwnP->Fr->Heap->SX×Fr
 | [],a,_=>(.cb true,a)
 |o::r,a,h=>match pI o a h with
  |(e,a')=>match fH r a' h with
   |(e',b)=>(jf e e',b)
def IM(e:SX)(x:VT):VT:=bif DQ e then x else .need e x
def DV(sp:LSpec)(a:Fr)(h:Heap)(p:Fr×Heap):VT:=match sN sp.v0 (dQ sp a h).a (dQ sp a h).h p.1 p.2 with
 |some es=> .ret 0 es
 |none=> .bad
def UE(sp:LSpec)(a:Fr)(h:Heap)(e:Ex)(p:Fr×Heap):VT:=tX sp a h e p.1 p.2 sp.exits 0
def ds3(sp:LSpec)(a:Fr)(h:Heap)(e:Ex)(a':Fr)(h':Heap):VT:=match e with
 | .norm=>IM (fH sp.owns a' h').1 (DV sp a h (iZ sp (fH sp.owns a' h').2 h'))
 |e=>IM (fH sp.owns a' h').1 (UE sp a h e (iZ sp (fH sp.owns a' h').2 h'))
def wn(sp:LSpec)(a:Fr)(h:Heap)(e:Ex)(a':Fr)(h':Heap)(_:PC):VT:=ds3 sp a h e a' h'
def xY(sp:LSpec)(a:Fr)(h:Heap)(n0:Nat):Bool:=sp.owns.all (λo=>Nat.ble n0 o.blk)&&Ob a h n0 h.next sp.head.blks&&sp.exits.all (λx=>Nat.ble h.next x.2.next&&Ob a h n0 x.2.next x.2.blks)&&qD sp.v0 sp.fv&&sS a&&Bz sp.v0 h.next (fR sp a h).a a.nt&&Mk sp.v0 h.next (fR sp a h).h h.next
def LX(rec:eK)(A:Alg R)(c:Code)(n0:Nat)(k:Ex->Fr->Heap->R)(sp:LSpec)(a:Fr)(h:Heap):R:=
 bif xY sp a h n0 then
  (match sN sp.v0 (dQ sp a h).a (dQ sp a h).h a h with
  |some s0=>A.loop ⟨sp.id,s0,sp.v0,sp.fv⟩ (rec iP lJ (.code c (dQ sp a h).a (dQ sp a h).h (wn sp a h)) [])
   (sp.exits.map λx=>k x.1 (kF sp (gD sp.id (s0++sp.fv)) a h x.2).a (kF sp (gD sp.id (s0++sp.fv)) a h x.2).h)
  |none=>A.bad)
 else A.bad
structure MC where
 ops1:Array Oper
 o1:Oper
 o2:Oper
 tok:Operand
 xid:Nat
 bid:Nat
 ops2:Array Oper
 o3:Oper
 r3:List Oper
 rest:Code
def BY(c:Code):Option MC:=match c with
 | .seq (.region _ ops1 false) (.seq (.cond tok .skip (.exit x)) (.block b (.seq (.region _ ops2 false) rest)))=>(match ops1.toList,ops2.toList with
   | [o1,o2],o3::r3=>some ⟨ops1,o1,o2,tok,x,b,ops2,o3,r3,rest⟩
   |_,_=>none)
 |_=>none
structure MO where
 it:Nat
 d1:Nat
 d2:Nat
 d3:Nat
def wz(o:Oper):Bool:=match o.guard with
 |none=>true
 |some _=>false
def dN1(it d1 d2 d3:Nat)(nt:Nat)(o1 o2 o3:Oper):Option MO:=bif wz o1&&wz o2&&wz o3&&Nat.blt d1 nt&&Nat.blt d2 nt&& !(Nat.beq d1 d2)then some ⟨it,d1,d2,d3⟩else none
def NK(m:MC)(a:Fr):Option MO:=match m.o1.op,m.o1.dst,m.o2.op,m.o2.dst,m.tok,m.o3.op,m.o3.dst with
 | .next (.tmp t) false,some d1,.extract (.tmp d1') 0,some d2,.tmp d2',.entry (.tmp t'),some d3=>bif Nat.beq d1 d1'&&Nat.beq d2 d2'&&Nat.beq t t'&& !(Nat.beq t d1)&& !(Nat.beq t d2)then(match a.slot t with
   | .ptr it 0=>dN1 it d1 d2 d3 a.nt m.o1 m.o2 m.o3
   |_=>none)else none
 |_,_,_,_,_,_,_=>none
def e97(b:Nat)(p:Nat×Option Blk):Nat×Option Blk:=bif Nat.beq p.1 b then(match p.2 with
 |some (.arr e sig l)=>(p.1,some (.bag e sig l))
 |_=>p)else p
def Ee(sp:LSpec)(it m ob:Nat)(lm:SX):LSpec:=⟨sp.id,sp.owns,sp.v0,sp.fv++[lm],sp.dead,⟨sp.head.slots,(it,none)::(m,none)::sp.head.blks,sp.head.next⟩,sp.exits.map λx=>(x.1,⟨x.2.slots,x.2.blks.map (e97 ob),x.2.next⟩),true⟩
def Fy(ks vs:List CT)(l idx:SX):AV:= .tup [lW (Ek (ks++vs) l idx 0 ks.length),lW (Ek (ks++vs) l idx ks.length vs.length)]
def ds4(rec:eK)(sp:LSpec)(mc:MC)(a:Fr)(h:Heap)(a3:Fr):VT:=rec iP lJ (.ops mc.ops2.toList mc.r3 a3 (dQ sp a h).h (EL none (e25 rec lJ mc.rest (Lb mc.bid (wn sp a h))))) []
def Nm(v0 nb ob b:Nat)(x:Option Blk):Bool:=bif Nat.beq b ob then(match x with
 |some (.arr _ _ (.va n))=>Nat.beq n (v0+1)
 |_=>false)else AB (v0+1) nb x
def DO(v0 nb ob:Nat)(h:Heap):Nat->Bool
 |0=>true
 |t+1=>Nm v0 nb ob t (h.get t)&&DO v0 nb ob h t
def Hh(x:Option Blk):Option Blk:=match x with
 |some (.arr e sig l)=>some (.bag e sig l)
 |x=>none
def GD(x:Option Blk):Bool:=match x with
 |none=>true
 |some _=>false
def Po(v0:Nat)(es:List SX):Bool:=match es with
 | [.va n,.va m]=>Nat.beq n v0&&Nat.beq m (v0+1)
 |_=>false
def EM(h1 h2:Heap):Nat->Bool
 |0=>true
 |t+1=>(GD (h1.get t)|| !(GD (h2.get t)))&&EM h1 h2 t
def uk(sp:LSpec)(mo:MO)(a:Fr)(h:Heap):Fr:=((dQ sp a h).a.put (some mo.d1) (.tup [.bool false])).put (some mo.d2) (.bool false)
def MB(sp:LSpec)(mo:MO)(ob:Nat)(a:Fr)(h:Heap)(x:StP):Bool:=match sN sp.v0 (im sp a h x).a (im sp a h x).h (uk sp mo a h) ((dQ sp a h).h.put ob (Hh ((dQ sp a h).h.get ob)))with
 |some es=>Po sp.v0 es
 |none=>false
def Ka(sp:LSpec)(a:Fr)(h:Heap)(n0:Nat)(mo:MO)(m ob:Nat)(lm:SX):Bool:=
 xY sp a h n0&&Nat.ble h.wm n0&&Nat.ble h.wm mo.it&&Nat.blt m n0&&Nat.ble n0 ob&&Nat.blt mo.it n0&&GD ((dQ sp a h).h.get mo.it)&&GD ((dQ sp a h).h.get m)&&gb sp.v0 lm&&
 Bz (sp.v0+1) h.next (dQ sp a h).a a.nt&&Bz (sp.v0+1) h.next (uk sp mo a h) a.nt&&DO sp.v0 h.next ob (dQ sp a h).h h.next
def KZ(rec:eK)(A:Alg R)(n0:Nat)(k:Ex->Fr->Heap->R)(sp:LSpec)(a:Fr)(h:Heap)(mc:MC)(mo:MO)(m ob:Nat)(d:Bool)(ks vs:List CT)(lm:SX)(x:Ex×StP):R:=match x.1 with
 | .exit xid=>bif Nat.beq xid mc.xid&&Ka sp a h n0 mo m ob lm&&Nat.blt m x.2.next&&MB sp mo ob a h x.2 then(match sN sp.v0 (dQ sp a h).a (dQ sp a h).h a h with
  |some [s0,s1]=>bif EM (kF sp (gD sp.id (s0::s1::sp.fv)) a h x.2).h (dQ sp a h).h x.2.next then A.mloop ⟨sp.id,[s0,s1],sp.v0,sp.fv⟩ lm
   (ds4 rec sp mc a h ((((dQ sp a h).a.put (some mo.d1) .any).put (some mo.d2) (.bool true)).put (some mo.d3) (Fy ks vs lm (.va (sp.v0+2)))))
   [k x.1 (kF sp (gD sp.id (s0::s1::sp.fv)) a h x.2).a ((kF sp (gD sp.id (s0::s1::sp.fv)) a h x.2).h.put m (some (.marr d ks vs lm)))]else A.bad
  |_=>A.bad)else A.bad
 |_=>A.bad
def OD(rec:eK)(A:Alg R)(n0:Nat)(k:Ex->Fr->Heap->R)(sp:LSpec)(a:Fr)(h:Heap)(mc:MC)(mo:MO)(m:Nat)(b:Option Blk)(o:List OwnP):R:=match b,o with
 |some (.mrg it' d ks vs lm),[o]=>bif Nat.beq it' mo.it then(match(Ee sp mo.it m o.blk lm).exits with
  | [x]=>KZ rec A n0 k (Ee sp mo.it m o.blk lm) a h mc mo m o.blk d ks vs lm x
  |_=>A.bad)else A.bad
 |_,_=>A.bad
def Si(rec:eK)(A:Alg R)(n0:Nat)(k:Ex->Fr->Heap->R)(sp:LSpec)(a:Fr)(h:Heap)(mc:MC)(mo:Option MO):R:=match mo with
 |some mo=>(match h.get mo.it with
  |some (.mit m)=>OD rec A n0 k sp a h mc mo m (h.get m) sp.owns
  |_=>A.bad)
 |none=>A.bad
def Fe(rec:eK)(A:Alg R)(n0:Nat)(k:Ex->Fr->Heap->R)(sp:LSpec)(a:Fr)(h:Heap)(mc:Option MC):R:=match mc with
 |some mc=>Si rec A n0 k sp a h mc (NK mc (dQ sp a h).a)
 |none=>A.bad
def Ua(rec:eK)(A:Alg R)(c:Code)(n0:Nat)(k:Ex->Fr->Heap->R)(sp:LSpec)(p:Fr×Heap):R:=bif sp.mapr then Fe rec A n0 k sp p.1 p.2 (BY c)else LX rec A c n0 k sp p.1 p.2
def Su(rec:eK)(A:Alg R)(c:Code)(a:Fr)(h:Heap)(k:Ex->Fr->Heap->R)(sp:LSpec):R:=
 bif sS a then needA A (fH sp.owns a h).1 (Ua rec A c h.next k sp (iZ sp (fH sp.owns a h).2 (h.upto (Nat.add h.next sp.owns.length))))else A.bad
def ds7(rec:eK)(A:Alg R)(c:Code)(a:Fr)(h:Heap)(k:Ex->Fr->Heap->R)(sp:Option LSpec):R:=match sp with
 |some sp=>Su rec A c a h k sp
 |none=>rec R A (.code c a h (dN0 rec A c k))
def ds8(rec:eK)(A:Alg R)(ops:List Oper)(a:Fr)(h:Heap)(k:Ex->Fr->Heap->R)(p:Option (List PO)):R:=match p with
 |some l=>rec R A (.dops ops l [] a h (EL a.ro k))
 |none=>A.bad
def d36(rec:eK)(A:Alg R)(ops:List Oper)(draw:Bool)(a:Fr)(h:Heap)(k:Ex->Fr->Heap->R):R:=
 bif draw then ds8 rec A ops a h k (HV ops)else rec R A (.ops ops ops a h (EL a.ro k))
def ds9(E:Env)(rec:eK)(A:Alg R)(c:Code)(a:Fr)(h:Heap)(k:Ex->Fr->Heap->R):R:=match c with
 | .skip=>k .norm a h
 | .label _=>k .norm a h
 | .ret=>k .ret a h
 | .exit id=>k (.exit id) a h
 | .seq x y=>rec R A (.code x a h (e25 rec A y k))
 | .cond c x y=>PL rec A x y a h k (a.ev c)
 | .block id b=>rec R A (.code b a h (Lb id k))
 | .loop b=>rec R A (.loop b a h k)
 | .scope b=>rec R A (.code b a h k)
 | .region _ ops draw=>d36 rec A ops.toList draw a h k
 | .rangeFunc f ps assign body=>A.bad
 |_=>A.bad
def KQ(rec:eK)(A:Alg R)(h:Heap)(k:AV->Heap->R)(r:Res):R:=match r with
 | .val v h=>k v h
 | .need e v h=>needA A e (k v h)
 | .cho e v l h=>A.ite e (k v h) (A.amb (l.map λv=>(v,h)) λx=>k x.1 x.2)
 | .enter f args=>rec R A (.call f args h k)
 | .choice l=>A.amb l λx=>k x.1 x.2
 | .yield l args=>A.bad
 | .defer _=>A.bad
 | .bad=>A.bad
def kOp(rec:eK)(A:Alg R)(all rest:List Oper)(dst:Option Tmp)(a:Fr)(k:Fr->Heap->R)(v:AV)(h:Heap):R:=rec R A (.ops all rest (a.put dst v) h k)
def cd8(rec:eK)(A:Alg R)(all rest:List Oper)(a:Fr)(h:Heap)(k:Fr->Heap->R)(e:Option SX):R:=match e with
 |some e=>A.ite e (rec R A (.ops all rest (a.cond (e,true)) h k)) (rec R A (.ops all rest (a.cond (e,false)) h k))
 |none=>A.bad
def TJ(rec:eK)(A:Alg R)(all rest:List Oper)(dst:Option Tmp)(a:Fr)(h:Heap)(k:Fr->Heap->R)(r:Res):R:=match r with
 | .defer d=>match a.ro with
   |none=>A.bad
   |some _=>A.bad
 |r=>KQ rec A h (kOp rec A all rest dst a k) r
def dt0(E:Env)(rec:eK)(A:Alg R)(all rest:List Oper)(o:Oper)(a:Fr)(h:Heap)(k:Fr->Heap->R)(w:Option Bool):R:=match w with
 |some true=>TJ rec A all rest o.dst a h k (fQ E a.ev o h)
 |some false=>rec R A (.ops all rest (a.put o.dst .undef) h k)
 |none=>cd8 rec A all (o::rest) a h k (vP all a o)
def dN2(E:Env)(rec:eK)(A:Alg R)(all rest:List Oper)(a:Fr)(h:Heap)(k:Fr->Heap->R):R:=match rest with
 | []=>k a h
 |o::rest=>dt0 E rec A all rest o a h k (fp all a o)
def e26(E:Env)(rec:eK)(A:Alg R)(all:List Oper)(rest:List PO)(pend:List Pend)(dst:Option Tmp)(a:Fr)(k:Fr->Heap->R)(v:AV)(h:Heap):R:=
 bif tZ E (a.put dst v) h pend then rec R A (.dops all rest pend (a.put dst v) h k)else A.bad
def Rk(E:Env)(rec:eK)(A:Alg R)(all:List Oper)(x:PO)(rest:List PO)(pend:List Pend)(a:Fr)(k:Fr->Heap->R)(r:Res):R:=match r with
 | .val v h=>bif !(ia x.o)||tZ E (a.put x.o.dst v) h pend then rec R A (.dops all rest (⟨x.i,x.o,v,none⟩::pend) (a.put x.o.dst v) h k)else A.bad
 | .need e v h=>bif !(ia x.o)then needA A e (rec R A (.dops all rest (⟨x.i,x.o,v,some e⟩::pend) (a.put x.o.dst v) h k))else A.bad
 |_=>A.bad
def Sa(rec:eK)(A:Alg R)(all:List Oper)(rest:List PO)(pend:List Pend)(a:Fr)(h:Heap)(k:Fr->Heap->R)(e:Option SX):R:=match e with
 |some e=>A.ite e (rec R A (.dops all rest pend (a.cond (e,true)) h k)) (rec R A (.dops all rest pend (a.cond (e,false)) h k))
 |none=>A.bad
def BJ(E:Env)(rec:eK)(A:Alg R)(all:List Oper)(x:PO)(rest:List PO)(pend:List Pend)(a:Fr)(h:Heap)(k:Fr->Heap->R)(w:Option Bool):R:=match w with
 |some true=>bif x.fl then Rk E rec A all x rest pend a k (fQ E a.ev x.o h)
  else KQ rec A h (e26 E rec A all rest (pend.filter λp=> !(x.m.testBit p.i)) x.o.dst a k) (fQ E a.ev x.o h)
 |some false=>rec R A (.dops all rest pend (a.put x.o.dst .undef) h k)
 |none=>Sa rec A all (x::rest) pend a h k (vP all a x.o)
def dt1(E:Env)(rec:eK)(A:Alg R)(all:List Oper)(rest:List PO)(pend:List Pend)(a:Fr)(h:Heap)(k:Fr->Heap->R):R:=match rest with
 | []=>k a h
 |x::rest=>BJ E rec A all x rest pend a h k (fp all a x.o)
def Qn(v:AV)(h:Heap):Option (AV×Heap):=some (v,h)
def CJ(wm:Nat)(o:Option (Bool×List Out))(v:AV)(h:Heap):Bool:=YR (BP wm h v) o
def e98(k:AV->Heap->R)(x:AV×Heap):R:=k x.1 x.2
def QJ(rec:eK)(A:Alg R)(f:FuncId)(args:List AV)(h:Heap)(k:AV->Heap->R)(x:Option (AV×Heap)):R:=match x with
 |none=>A.bad
 |some (v0,h0)=>A.bad
structure Cap2 where
 b:Nat
 full:List AV
 wide:List AV
 h:Heap
def capH(h:Heap)(b e:Nat)(cs:List AV):Heap:=((h.put b none).raise).new (.cells e 0 cs)
def Mf(args:List AV)(h:Heap):Option Cap2:=match args with
 | .us b 0 len sz:: .int k (.ofNat i)::rest=>match h.get b with
   |some (.cells e 0 cs)=>bif Nat.ble h.wm b&&Nat.beq cs.length (len*sz)&&Nat.blt i len&&Nat.blt 0 sz then
    some ⟨b,.sl b 0 len len:: .int k (.ofNat i)::rest,.us h.next 0 len sz:: .int k (.ofNat i)::rest,capH h b e (cs++dZ sz [.any])⟩
    else none
   |_=>none
 |_=>none
def cS4(rec:eK)(A:Alg R)(f:FuncId)(h:Heap)(k:AV->Heap->R)(c:Cap2)(x:Option (Bool×List Out)):R:=match x with
 |none=>A.bad
 |some (b,l)=>bif rec Bool wL (.body f c.full h.raise (CJ h.next (some (b,l))))&&rec Bool wL (.body f c.wide c.h (CJ h.next (some (b,l))))then
  e98 k (Oh b l (h.put c.b none))else A.bad
def cS5(rec:eK)(A:Alg R)(f:FuncId)(h:Heap)(k:AV->Heap->R)(c:Cap2)(x:Option (AV×Heap)):R:=match x with
 |none=>A.bad
 |some (v0,h0)=>cS4 rec A f h k c (BP h.next h0 v0)
def US(rec:eK)(A:Alg R)(f:FuncId)(args:List AV)(h:Heap)(k:AV->Heap->R)(c:Option Cap2):R:=match c with
 |none=>rec R A (.body f args h k)
 |some c=>cS5 rec A f h k c (rec (Option (AV×Heap)) TP (.body f c.full h.raise Qn))
def dt2(E:Env)(rec:eK)(A:Alg R)(f:FuncId)(args:List AV)(h:Heap)(k:AV->Heap->R)(x:Res):R:=match x with
 | .val v h=>k v h
 | .need e v h=>needA A e (k v h)
 |_=>bif E.amb f then QJ rec A f args h k (rec (Option (AV×Heap)) TP (.body f args h.raise Qn))else
  bif E.caps f then US rec A f args h k (Mf args h)else rec R A (.body f args h k)
def dt3(E:Env)(rec:eK)(A:Alg R)(f:FuncId)(args:List AV)(h:Heap)(k:AV->Heap->R):R:=dt2 E rec A f args h k (E.hook f args h)
def Jp(A:Alg R)(h:Heap)(k:AV->Heap->R)(vs:Option (List AV)):R:=match vs with
 |some vs=>k (VA vs) h
 |none=>A.bad
def cS6(P:Program)(rec:eK)(A:Alg R)(rs:List ResultVar)(k:AV->Heap->R)(e:Ex)(a:Fr)(h:Heap):R:=match e with
 | .exit _=>A.bad
 |_=>match a.ds with
  | []=>Jp A h k (sB P a h rs)
  |ds=>rec R A (.leave rs a ds h k)
def Tf(P:Program)(rec:eK)(A:Alg R)(f:FuncId)(args:List AV)(h:Heap)(k:AV->Heap->R)(fn:Option Func):R:=match fn with
 |none=>A.bad
 |some fn=>match fn.body with
  |none=>A.bad
  |some c=>bif Nat.ble (Nat.max fn.ntmps args.length) 256 then rec R A (.code c ⟨uM args 0 TF.empty,Nat.max fn.ntmps args.length,[],f,[],none⟩ h (cS6 P rec A fn.results.toList k))else A.bad
def Uo(P:Program)(rec:eK)(A:Alg R)(f:FuncId)(args:List AV)(h:Heap)(k:AV->Heap->R)(fn:Option Func):R:=match fn with
 |none=>A.bad
 |some fn=>A.bad
def QY(rec:eK)(A:Alg R)(rs:List ResultVar)(a:Fr)(ds:List ADef)(h:Heap)(k:AV->Heap->R)(r:Res):R:=match r with
 | .enter f args=>A.bad
 |_=>A.bad
def RD(rec:eK)(A:Alg R)(rs:List ResultVar)(a:Fr)(ds:List ADef)(b:Nat)(h:Heap)(k:AV->Heap->R)(x:Option Blk):R:=match x with
 |some (.defd false)=>bif Nat.ble h.wm b then rec R A (.leave rs a ds (h.put b (some (.defd true))) k)else A.bad
 |_=>A.bad
def d42(E:Env)(rec:eK)(A:Alg R)(rs:List ResultVar)(a:Fr)(ds:List ADef)(h:Heap)(k:AV->Heap->R):R:=match ds with
 | []=>Jp A h k (sB E.P a h rs)
 | .coll b::ds=>RD rec A rs a ds b h k (h.get b)
 | .fn f cap args::ds=>QY rec A rs a ds h k (Cp E f (args++cap) h)
def dt4(E:Env)(rec:eK)(A:Alg R)(f:FuncId)(args:List AV)(h:Heap)(k:AV->Heap->R):R:=Tf E.P rec A f args h k (E.P.funcs[f]?)
def dt5(E:Env)(rec:eK)(A:Alg R)(t:Task R):R:=match t with
 | .code c a h k=>ds9 E rec A c a h k
 | .loop c a h k=>ds7 rec A c a h k (E.lspec a.fn (Ai c) a h)
 | .ops all rest a h k=>dN2 E rec A all rest a h k
 | .dops all rest pend a h k=>dt1 E rec A all rest pend a h k
 | .call f args h k=>dt3 E rec A f args h k
 | .body f args h k=>dt4 E rec A f args h k
 | .dbody f args h k=>Uo E.P rec A f args h k (E.P.funcs[f]?)
 | .leave rs a ds h k=>d42 E rec A rs a ds h k
end
def e99(R:Type)(A:Alg R)(_:Task R):R:=A.bad
def evS(E:Env)(_:Nat)(rec:eK)(R:Type)(A:Alg R)(t:Task R):R:=dt5 E rec A t
def ev(E:Env)(n:Nat):eK:=Nat.rec (motive:=λ_=>eK) e99 (evS E) n
end
end Go.Ev
namespace Go.Ev
open Go
theorem BN{a b c d:Prop}(f:a->c)(g:b->d)(h:a\/b):c\/d:=by
 grind
theorem jm{a b:Nat}(h:a<b):Nat.blt a b=true:=by simpa using h
theorem jv{a b:Nat}(h: ¬a<b):Nat.blt a b=false:=by
 cases e:Nat.blt a b with
 |false=>rfl
 |true=>(simp at*;omega)
theorem fc{a b:Nat}:Nat.blt a b=true↔a<b:=by simp
theorem cW{a b:Nat}:Nat.ble a b=true↔a<=b:=by simp
theorem Z4{a b:Nat}:Nat.beq a b=true↔a=b:=by simp
theorem BK(i j:Nat)(hi:i<16)(hj:j<16)(α:Type)(x:α)(t:P16 α):
 (sA i).g α ((sA j).s α x t)=if i=j then x else(sA i).g α t:=by
 have hi':i=0\/i=1\/i=2\/i=3\/i=4\/i=5\/i=6\/i=7\/i=8\/i=9\/i=10\/i=11\/i=12\/i=13\/i=14\/i=15:=by omega
 have hj':j=0\/j=1\/j=2\/j=3\/j=4\/j=5\/j=6\/j=7\/j=8\/j=9\/j=10\/j=11\/j=12\/j=13\/j=14\/j=15:=by omega
 rcases hi' with rfl|rfl|rfl|rfl|rfl|rfl|rfl|rfl|rfl|rfl|rfl|rfl|rfl|rfl|rfl|rfl<;>
 rcases hj' with rfl|rfl|rfl|rfl|rfl|rfl|rfl|rfl|rfl|rfl|rfl|rfl|rfl|rfl|rfl|rfl<;>rfl
theorem bO0(i:Nat)(hi:i<16)(α:Type)(x:α):(sA i).g α (P16.const x)=x:=by
 have hi':i=0\/i=1\/i=2\/i=3\/i=4\/i=5\/i=6\/i=7\/i=8\/i=9\/i=10\/i=11\/i=12\/i=13\/i=14\/i=15:=by omega
 rcases hi' with rfl|rfl|rfl|rfl|rfl|rfl|rfl|rfl|rfl|rfl|rfl|rfl|rfl|rfl|rfl|rfl<;>rfl
theorem TF.get_empty(n:Nat):TF.get TF.empty n= .undef:=by
 unfold TF.get Gi;by_cases h:n<256
 .rw[jm h];simp[cond_true,Ti,TF.empty,e07];grind[bO0]
 .rw[jv h];rfl
theorem TF.get_set(t:TF)(m n:Nat)(v:AV)(hm:m<256):(TF.set t m v).get n=if n=m then v else t.get n:=by
 unfold TF.get TF.set Gi;rw[jm hm];by_cases h:n<256
 .rw[jm h];simp[cond_true,Ti];rw[BK _ _ (by omega) (by omega)];by_cases h1:n/16=m/16
  .rw[e8 h1,BK _ _ (by omega) (by omega)]
   (split<;>grind)
  grind
 .rw[jv h];simp[cond_false,e06];grind
theorem Wz(b b':Nat)(x:Option Blk)(t:TH):(uf b').g ((uf b).s x t)=if b'=b then(if b<65536 then x else none)else(uf b').g t:=by
 unfold uf;by_cases h:b<65536
 .rw[show(!(Nat.blt b 65536))=false by simp_all,e8 h];by_cases h':b'<65536
  .rw[show(!(Nat.blt b' 65536))=false by rw[jm h'];rfl];simp[cond_false,RH];rw[BK _ _ (by omega) (by omega)];by_cases h1:b'/4096=b/4096
   .rw[e8 h1,BK _ _ (by omega) (by omega)];by_cases h2:b'/256 % 16=b/256 % 16
    .rw[e8 h2,BK _ _ (by omega) (by omega)];by_cases h3:b'/16 % 16=b/16 % 16
     .rw[e8 h3,BK _ _ (by omega) (by omega)];by_cases h4:b' % 16=b % 16
      .rw[e8 h4,e8 (by omega)]
      .rw[b9 h4,b9 (by omega),h1,h2,h3]
     .rw[b9 h3,b9 (by omega),h1,h2]
    (split<;>grind)
   grind
  .rw[show(!(Nat.blt b' 65536))=true by rw[jv h'];rfl];simp[cond_true,Kg];grind
 .rw[show(!(Nat.blt b 65536))=true by rw[jv h];rfl,b9 h];simp only[cond_true,Kg];by_cases e:b'=b
  .subst e;rw[show(!(Nat.blt b' 65536))=true by rw[jv h];rfl];simp
  grind
theorem Heap.get_put(h:Heap)(b b':Nat)(x:Option Blk):(h.put b x).get b'=if b'=b then(if b<65536 then x else none)else h.get b':=by
 exact Wz b b' x _
theorem Heap.get_new(h:Heap)(b':Nat)(x:Blk):(h.new x).get b'=if b'=h.next then(if h.next<65536 then some x else none)else h.get b':=by
 exact Wz _ b' (some x) _
@[simp]theorem Heap.next_put(h:Heap)(b:Nat)(x:Option Blk):(h.put b x).next=h.next:=rfl
@[simp]theorem Heap.wm_put(h:Heap)(b:Nat)(x:Option Blk):(h.put b x).wm=h.wm:=rfl
@[simp]theorem Heap.next_new(h:Heap)(x:Blk):(h.new x).next=h.next+1:=rfl
@[simp]theorem Heap.wm_new(h:Heap)(x:Blk):(h.new x).wm=h.wm:=rfl
theorem Heap.get_lim(h:Heap)(b:Nat)(x:Blk)(e:h.get b=some x):b<65536:=by
 grind[Heap.get,gf,uf,Nat.blt,jv,Kg]
theorem Heap.get_empty(b:Nat):Heap.empty.get b=none:=by
 simp only[Heap.get,Heap.empty,gf,uf];by_cases hb:b<65536
 .rw[show(!(Nat.blt b 65536))=false by rw[jm hb];rfl];simp[cond_false,RH,Jt,Nr,VX];grind[bO0]
 .rw[show(!(Nat.blt b 65536))=true by grind[jv]];rfl
structure Loc where
 blk:Nat
 off:Nat
 ext:Nat
abbrev cq:=Nat->Option Loc
structure Opq where
 v:Nat->Value
 w:Nat->Val
 f:Nat->List Val->Val
 one: ∀n,(v n).oneCell'=true
 fix:TypeId->Bool
 gh:Nat->Option Obj
noncomputable def kO(x y:List UInt8):Bool:=ij x y
def cn(op:BinOp)(k:IntKind)(x y:Int):Int:=match op with
 | .add=>k.wrap (x+y)
 | .sub=>k.wrap (x-y)
 | .mul=>k.wrap (x*y)
 | .quo=>k.wrap (x.tdiv y)
 | .rem=>x.tmod y
 | .shl=>k.wrap (x*2^(min y.toNat k.bits))
 | .shr=>x.fdiv (2^(min y.toNat k.bits))
 | .and=>k.wrap ((BitVec.ofInt k.bits x&&&BitVec.ofInt k.bits y).toNat)
 | .or=>k.wrap ((BitVec.ofInt k.bits x|||BitVec.ofInt k.bits y).toNat)
 | .xor=>k.wrap ((BitVec.ofInt k.bits x^^^BitVec.ofInt k.bits y).toNat)
 | .andNot=>k.wrap ((BitVec.ofInt k.bits x&&& ~~~(BitVec.ofInt k.bits y)).toNat)
 |_=>0
def jt(op:BinOp)(x y:Int):Bool:=match op with
 | .eql=>decide (x=y)
 | .neq=> !decide (x=y)
 | .lss=>decide (x<y)
 | .leq=>decide (x<=y)
 | .gtr=>decide (y<x)
 | .geq=>decide (y<=x)
 |_=>false
noncomputable def qE(op:BinOp)(x y:List UInt8):Bool:=match op with
 | .eql=>decide (x=y)
 | .neq=> !decide (x=y)
 | .lss=>kO x y
 | .leq=> !kO y x
 | .gtr=>kO y x
 | .geq=> !kO x y
 |_=>false
def unI(op:UnOp)(k:IntKind)(x:Int):Int:=match op with
 | .neg=>k.wrap (0-x)
 | .xor=>k.wrap ((BitVec.ofInt k.bits (if k.signed then-1 else k.max)^^^BitVec.ofInt k.bits x).toNat)
 |_=>0
def co(l:List Val)(i:Int)(j:Int):Val:=(l.getD i.toNat (.vl [])).toL.getD j.toNat default
def Ny(c:CT)(x y:Val):Bool:=match c with
 | .int _=>decide (x.toI=y.toI)
 | .str=>decide (x.toS=y.toS)
 | .bool=>x.toB==y.toB
def Br(r k:Val):List CT->Nat->Bool
 | [],_=>true
 |c::cs,j=>Ny c (k.toL.getD j default) (r.toL.getD j default)&&Br r k cs (j+1)
def io(ks:List CT)(r k:Val):Bool:=Br r k ks 0
noncomputable def cK:Prim->List Val->Val
 | .ar op k,[a,b]=> .vi (cn op k a.toI b.toI)
 | .cmp op,[a,b]=> .vb (jt op a.toI b.toI)
 | .scmp op,[a,b]=> .vb (qE op a.toS b.toS)
 | .cat,[a,b]=> .vs (a.toS++b.toS)
 | .not,[a]=> .vb (!a.toB)
 | .and,[a,b]=> .vb (a.toB&&b.toB)
 | .or,[a,b]=> .vb (a.toB||b.toB)
 | .beq,[a,b]=> .vb (a.toB==b.toB)
 | .ite,[a,b,c]=>bif a.toB then b else c
 | .un op k,[a]=> .vi (unI op k a.toI)
 | .conv k,[a]=> .vi (k.wrap a.toI)
 | .slen,[a]=> .vi a.toS.length
 | .sat,[a,i]=> .vi (a.toS.getD i.toI.toNat 0).toNat
 | .ssub,[a,i,j]=> .vs ((a.toS.drop i.toI.toNat).take (j.toI-i.toI).toNat)
 | .llen,[a]=> .vi a.toL.length
 | .lget,[a,i,j]=>co a.toL i.toI j.toI
 | .lset,[a,i,r]=> .vl (a.toL.set i.toI.toNat r)
 | .lcat,[a,b]=> .vl (a.toL++b.toL)
 | .lsub,[a,i,j]=> .vl ((a.toL.drop i.toI.toNat).take (j.toI-i.toI).toNat)
 | .row,l=> .vl l
 | .imin,[a,b]=> .vi (min a.toI b.toI)
 | .iadd,[a,b]=> .vi (a.toI+b.toI)
 | .isub,[a,b]=> .vi (a.toI-b.toI)
 | .imax,[a,b]=> .vi (max a.toI b.toI)
 | .lrep,[n,r]=> .vl (List.replicate n.toI.toNat r)
 | .scnt,[a,c]=> .vi (Uv c.toI.toNat a.toS:Nat)
 | .sidx,[a,c]=> .vi (dp9 c.toI.toNat a.toS)
 | .sbytes,[a]=> .vl (a.toS.map λb=> .vl [.vi b.toNat])
 | .mfind ks,[l,k]=> .vi (l.toL.findIdx λr=>io ks r k:Nat)
 | .mdel ks,[l,k]=> .vl (l.toL.eraseIdx (l.toL.findIdx λr=>io ks r k))
 | .bok,[a]=> .vb (a.toL.all λr=>decide (0<=(r.toL.getD 0 default).toI)&&decide ((r.toL.getD 0 default).toI<256))
 | .bstr,[a]=> .vs (a.toL.map λr=>UInt8.ofNat (r.toL.getD 0 default).toI.toNat)
 |_,_=> .vb false
mutual
noncomputable def bZ(I:Opq):SX->Val
 | .ci n=> .vi n
 | .cs l=> .vs l
 | .cb x=> .vb x
 | .va n=>I.w n
 | .op p l=>cK p (ck I l)
 | .app f l=>I.f f (ck I l)
noncomputable def ck(I:Opq):List SX->List Val
 | []=>[]
 |a::r=>bZ I a::ck I r
end
noncomputable def dI(I:Opq)(e:SX):Int:=(bZ I e).toI
noncomputable def dS(I:Opq)(e:SX):List UInt8:=(bZ I e).toS
noncomputable def dB(I:Opq)(e:SX):Bool:=(bZ I e).toB
noncomputable def dL(I:Opq)(e:SX):List Val:=(bZ I e).toL
def Opq.upd(I:Opq)(v0:Nat)(l:List Val):Opq:=⟨I.v,λn=>if v0<=n then l.getD (n-v0) (.vb false)else I.w n,I.f,I.one,I.fix,I.gh⟩
inductive Iter (step:List Val->Option (Nat×List Val)):List Val->Nat->List Val->Prop where
 |out {vs p:List Val} {i:Nat}:step vs=some (i+1,p)->Iter step vs i p
 |more {vs vs' p:List Val} {i:Nat}:step vs=some (0,vs')->Iter step vs' i p->Iter step vs i p
theorem Iter.uniq{step:List Val->Option (Nat×List Val)}{vs:List Val}{i j:Nat}{p q:List Val}(a:Iter step vs i p)(b:Iter step vs j q):i=j/\p=q:=by
 induction a with
 |out h=>
  cases b with
  |out h'=>grind
  |more h' _=>grind
 |more h _ ih=>
  cases b with
  |out h'=>grind
  |more h' k=>grind
open Classical in
noncomputable def cO(step:List Val->Option (Nat×List Val))(vs:List Val):Option (Nat×List Val):=
 if h: ∃r:Nat×List Val,Iter step vs r.1 r.2 then some (Classical.choose h)else none
theorem nJ{step:List Val->Option (Nat×List Val)}{vs:List Val}{i:Nat}{p:List Val}:cO step vs=some (i,p)↔Iter step vs i p:=by
 unfold cO;constructor
 ·(split<;>grind)
 .intro h;have hh: ∃r:Nat×List Val,Iter step vs r.1 r.2:=⟨(i,p),h⟩;have:=(Classical.choose_spec hh).uniq h;grind
def cA(r:Nat×List Val):Val:= .vl [.vl [.vi r.1],.vl r.2]
def iY(step:List Val->Option (Nat×List Val)):List Nat->List Val->Option (List Val)
 | [],s=>some s
 |i::r,[a,b]=>match step [a,b,.vi i]with
  |some (0,s')=>iY step r s'
  |_=>none
 |_::_,_=>none
def Dv(step:List Val->Option (Nat×List Val))(n:Nat)(s:List Val)(D:List Val):Prop:=
 iY step (List.range n) s=some [.vi D.length,.vl D]/\ ∀p:List Nat,p.Perm (List.range n)-> ∃D':List Val,iY step p s=some [.vi D'.length,.vl D']/\D'.Perm D
open Classical in
mutual
noncomputable def Z0:VT->Opq->Option (Nat×List Val)
 | .bad,_=>none
 | .ite e a b,I=>if dB I e then Z0 a I else Z0 b I
 | .need e x,I=>if dB I e then Z0 x I else none
 | .ret i out,I=>some (i,ck I out)
 | .loop hd body ks,I=>match cO (λvs=>Z0 body (I.upd hd.v0 vs)) (ck I hd.s0)with
   |some r=>if I.f hd.id (ck I (hd.s0++hd.fv))=cA r then sh ks r.1 I else none
   |none=>none
 | .both a b,I=>if Z0 a I=Z0 b I then Z0 a I else none
 | .mloop hd l body ks,I=>if∃D,Dv (λvs=>Z0 body (I.upd hd.v0 vs)) (dL I l).length (ck I hd.s0) D/\I.f hd.id (ck I (hd.s0++hd.fv))=cA (0,[.vi D.length,.vl D])then sh ks 0 I else none
noncomputable def sh:List VT->Nat->Opq->Option (Nat×List Val)
 | [],_,_=>none
 |k::_,0,I=>Z0 k I
 |_::r,n+1,I=>sh r n I
end
theorem ce2: ∀{a b:List UInt8},Mq a b=true->a=b
 | [],[],_=>rfl
 |a::x,b::y,h=>by
  simp only[Mq]at h;cases hc:Nat.beq a.toNat b.toNat with
  |false=>grind
  |true=>
   rw[hc]at h;have:a=b:=UInt8.toNat_inj.1 (by simp_all);rw[this,ce2 h]
 | [],_::_,h=>by cases h
 |_::_,[],h=>by cases h
theorem d44: ∀{a b:Int},MV a b=true->a=b
 | .ofNat a,.ofNat b,h=>by simp_all[MV]
 | .negSucc a,.negSucc b,h=>by simp_all[MV]
 | .ofNat _,.negSucc _,h=>by cases h
 | .negSucc _,.ofNat _,h=>by cases h
mutual
theorem SX.beq_eq: ∀(a b:SX),SX.beq a b=true->a=b
 | .ci a,b,h=>by cases b<;>simp[SX.beq]at h;rw[d44 h]
 | .cs a,b,h=>by cases b<;>simp[SX.beq]at h;rw[ce2 h]
 | .cb a,b,h=>by cases b<;>simp[SX.beq]at h;rw[h]
 | .va a,b,h=>by cases b<;>simp[SX.beq]at h;rw[h]
 | .op p a,b,h=>by
   cases b<;>simp[SX.beq]at h;obtain⟨rfl,h⟩:=h;rw[SX.beqs_eq a _ h]
 | .app p a,b,h=>by
   cases b<;>simp[SX.beq]at h;obtain⟨rfl,h⟩:=h;rw[SX.beqs_eq a _ h]
theorem SX.beqs_eq: ∀(a b:List SX),SX.beqs a b=true->a=b
 | [],[],_=>rfl
 | [],_::_,h=>by simp[SX.beqs]at h
 |_::_,[],h=>by simp[SX.beqs]at h
 |a::x,b::y,h=>by
  simp[SX.beqs,j6]at h;rw[SX.beq_eq a b h.1,SX.beqs_eq x y h.2]
end
mutual
def VR(O:cq)(I:Opq):AV->Value->Prop
 | .bool b,v=>v= .bool b
 | .int k n,v=>v= .int k n
 | .str s,v=>v= .string ⟨s.toArray⟩
 | .nilp,v=>v= .pointer none
 | .ptr b o,v=> ∃L,O b=some L/\v= .pointer (some ⟨L.blk,L.off+o,none⟩)
 | .glob g,v=>v= .pointer (some ⟨g,0,none⟩)
 | .nils,v=>v= .slice none 0 0
 | .sl b o len cap,v=> ∃L,O b=some L/\v= .slice (some ⟨L.blk,L.off+o,none⟩) len cap
 | .us b o len sz,v=> ∃L cap,O b=some L/\o+cap*sz=L.ext/\v= .slice (some ⟨L.blk,L.off+o,none⟩) len cap
 | .es b o sz,v=> ∃L a cap,O b=some L/\v= .slice (some a) 0 cap/\(cap=0\/a=⟨L.blk,L.off+o,none⟩/\o+cap*sz=L.ext)
 | .es0,v=> ∃a,v= .slice (some a) 0 0
 | .nilm,v=>v= .map none
 | .map r,v=> ∃L,O r=some L/\v= .map (some L.blk)
 | .nilf,v=>v= .nilFunc
 | .func fn a b,v=>(∀l,fn≠ .yield l)/\ ∃x y,v= .func fn x y/\ct O I a x.toList/\ct O I b y.toList
 | .yield l,v=> ∃L,O l=some L/\v= .func (.yield L.blk) #[] #[]
 | .nili,v=>v= .nilIface
 | .iface t x,v=> ∃y,v= .iface t y/\VR O I x y
 | .agg cs,v=> ∃xs,v= .agg xs/\ct O I cs xs.toList
 | .tup cs,v=> ∃xs,v= .tuple xs/\ct O I cs xs.toList
 | .opq n,v=>v=I.v n
 | .oint k e,v=>v= .int k (dI I e)
 | .ostr e,v=>v= .string ⟨(dS I e).toArray⟩
 | .obool e,v=>v= .bool (dB I e)
 | .osl b off len sz,v=>(∃L cap a,O b=some L/\v= .slice (some a) (dI I len).toNat cap/\(dI I len).toNat<=cap/\(0<dI I len->a=⟨L.blk,L.off+(dI I off).toNat*sz,none⟩))\/ ∃a cap,v= .slice a 0 cap/\(a=none->cap=0)/\dI I len=0
 | .optr b idx j sz,v=> ∃L,O b=some L/\v= .pointer (some ⟨L.blk,L.off+(dI I idx).toNat*sz+j,none⟩)
 | .ous b len sz,v=>(∃L cap,O b=some L/\cap*sz=L.ext/\v= .slice (some ⟨L.blk,L.off,none⟩) (dI I len).toNat cap/\(dI I len).toNat<=cap)\/v= .slice none 0 0/\dI I len=0
 | .atl n,v=> ∃m:Int,v= .int .i64 m/\(n:Int)<=m
 | .any,_=>True
def ct(O:cq)(I:Opq):List AV->List Value->Prop
 | [],vs=>vs=[]
 |a::r,vs=> ∃v vr,vs=v::vr/\VR O I a v/\ct O I r vr
end
def Le(O ac:cq):Prop:= ∀b L,O b=some L->ac b=some L
theorem Le.refl(O:cq):Le O O:=λ_ _ h=>h
theorem Le.trans{a b c:cq}(h:Le a b)(k:Le b c):Le a c:=λx L e=>k x L (h x L e)
mutual
theorem VR.mono{O ac:cq}{I:Opq}(hl:Le O ac): ∀(a:AV) (v:Value),VR O I a v->VR ac I a v
 | .bool b,v,h=>h
 | .int k n,v,h=>h
 | .str s,v,h=>h
 | .nilp,v,h=>h
 | .ptr b o,v,h=>let ⟨L,e,x⟩:=h;⟨L,hl _ _ e,x⟩
 | .glob g,v,h=>h
 | .nils,v,h=>h
 | .sl b o len cap,v,h=>let ⟨L,e,x⟩:=h;⟨L,hl _ _ e,x⟩
 | .us b o len sz,v,h=>let ⟨L,c,e,x⟩:=h;⟨L,c,hl _ _ e,x⟩
 | .es b o sz,v,h=>let ⟨L,a,c,e,x⟩:=h;⟨L,a,c,hl _ _ e,x⟩
 | .es0,v,h=>h
 | .nilm,v,h=>h
 | .map r,v,h=>let ⟨L,e,x⟩:=h;⟨L,hl _ _ e,x⟩
 | .nilf,v,h=>h
 | .func fn a b,v,h=>let ⟨n,x,y,e,p,q⟩:=h;⟨n,x,y,e,ct.mono hl a _ p,ct.mono hl b _ q⟩
 | .yield l,v,h=>let ⟨L,e,x⟩:=h;⟨L,hl _ _ e,x⟩
 | .nili,v,h=>h
 | .iface t x,v,h=>let ⟨y,e,p⟩:=h;⟨y,e,VR.mono hl x y p⟩
 | .agg cs,v,h=>let ⟨xs,e,p⟩:=h;⟨xs,e,ct.mono hl cs _ p⟩
 | .tup cs,v,h=>let ⟨xs,e,p⟩:=h;⟨xs,e,ct.mono hl cs _ p⟩
 | .opq n,v,h=>h
 | .oint k n,v,h=>h
 | .ostr n,v,h=>h
 | .obool e,v,h=>h
 | .osl b off len sz,v,h=>BN (λ⟨L,c,a,e,x⟩=>⟨L,c,a,hl _ _ e,x⟩) id h
 | .optr b idx j sz,v,h=>let ⟨L,e,x⟩:=h;⟨L,hl _ _ e,x⟩
 | .ous b len sz,v,h=>BN (λ⟨L,c,e,x⟩=>⟨L,c,hl _ _ e,x⟩) id h
 | .atl n,v,h=>h
 | .any,v,h=>h
theorem ct.mono{O ac:cq}{I:Opq}(hl:Le O ac): ∀(a:List AV) (v:List Value),ct O I a v->ct ac I a v
 | [],vs,h=>h
 |a::r,vs,h=>let ⟨v,vr,e,p,q⟩:=h;⟨v,vr,e,VR.mono hl a v p,ct.mono hl r vr q⟩
end
theorem ct.length{O:cq}{I:Opq}: ∀{a:List AV} {v:List Value},ct O I a v->v.length=a.length
 | [],_,h=>by rw[h];rfl
 |_::r,_,⟨v,vr,e,_,q⟩=>by rw[e];simp[ct.length q]
theorem ct.cons{O:cq}{I:Opq}{a:AV}{r:List AV}{v:Value}{vr:List Value}(h:VR O I a v)(k:ct O I r vr):ct O I (a::r) (v::vr):=⟨v,vr,rfl,h,k⟩
theorem ct.nil{O:cq}{I:Opq}:ct O I [] []:=rfl
theorem ct.one{O:cq}{I:Opq}{a:AV}{v:Value}(h:VR O I a v):ct O I [a] [v]:= .cons h .nil
theorem ct.append{O:cq}{I:Opq}: ∀{a b:List AV} {v u:List Value},ct O I a v->ct O I b u->ct O I (a++b) (v++u)
 | [],_,_,_,h,k=>by rw[h];exact k
 |_::_,_,_,_,⟨v,vr,e,p,q⟩,k=>by rw[e];exact .cons p (ct.append q k)
theorem ct.drop{O:cq}{I:Opq}: ∀(n:Nat) {a:List AV} {v:List Value},ct O I a v->ct O I (a.drop n) (v.drop n)
 |0,_,_,h=>h
 |n+1,[],_,h=>by rw[h];exact .nil
 |n+1,_::_,_,⟨v,vr,e,p,q⟩=>by rw[e];exact ct.drop n q
theorem ct.take{O:cq}{I:Opq}: ∀(n:Nat) {a:List AV} {v:List Value},ct O I a v->ct O I (a.take n) (v.take n)
 |0,_,_,h=>by exact .nil
 |n+1,[],_,h=>by rw[h];exact .nil
 |n+1,_::_,_,⟨v,vr,e,p,q⟩=>by rw[e];exact .cons p (ct.take n q)
theorem ct.get{O:cq}{I:Opq}: ∀{a:List AV} {v:List Value} (i:Nat) (x:AV),ct O I a v->a[i]? =some x-> ∃y,v[i]? =some y/\VR O I x y
 | [],_,i,x,h,e=>by simp at e
 |a::r,_,0,x,⟨v,vr,e',p,q⟩,e=>by(intros;simp_all)
 |a::r,_,i+1,x,⟨v,vr,e',p,q⟩,e=>by
  obtain⟨y,hy,z⟩:=ct.get i x q e
  (intros;simp_all)
theorem VR.one{O:cq}{I:Opq}{a:AV}{v:Value}(h:VR O I a v)(ho:a.one=true):v.oneCell'=true:=by
 cases a<;>simp only[VR,AV.one]at h ho<;>first
  |(rcases h with⟨L,c,a,_,rfl,_⟩|⟨rfl,_⟩<;>rfl)
  |(rcases h with⟨L,c,a,_,rfl,_⟩|⟨a,c,rfl,_⟩<;>rfl)
  |(rcases h with⟨L,c,_,_,rfl,_⟩|⟨rfl,_⟩<;>rfl)
  |(subst h;rfl)
  |(obtain⟨L,_,rfl⟩:=h;rfl)
  |(obtain⟨L,c,_,_,rfl⟩:=h;rfl)
  |(obtain⟨L,a,c,_,rfl,_⟩:=h;rfl)
  |(obtain⟨a,rfl⟩:=h;rfl)
  |(obtain⟨m,rfl,_⟩:=h;rfl)
  |(obtain⟨_,x,y,rfl,_⟩:=h;rfl)
  |(obtain⟨y,rfl,_⟩:=h;rfl)
  |(subst h;exact I.one _)
  |simp at ho
theorem AV.one_A{a:AV}(h:a.one=true):a.oneA=true:=by cases a<;>first|rfl|cases h
theorem pM{l:List AV}(h:l.all AV.one=true):l.all AV.oneA=true:=k8.2 λx hx=>AV.one_A (k8.1 h x hx)
theorem VR.cells{O:cq}{I:Opq}{a:AV}{v:Value}(h:VR O I a v)(ht:a.nt=true):ct O I a.cells v.cells.toList:=by
 cases a with
 |agg cs=>obtain⟨xs,rfl,p⟩:=h;exact p
 |tup vs=>cases ht
 |any=>cases ht
 |func fn x y=>obtain⟨n,a,b,rfl,p,q⟩:=h;exact .one ⟨n,a,b,rfl,p,q⟩
 |iface t x=>obtain⟨y,rfl,p⟩:=h;exact .one ⟨y,rfl,p⟩
 |opq n=>
  have h1:=VR.one h rfl;have:v.cells= #[v]:=by cases v<;>first|rfl|grind[Value.oneCell']
  rw[this];exact .one h
 |_=>
  have h1:=VR.one h rfl;have:v.cells= #[v]:=by cases v<;>first|rfl|grind[Value.oneCell']
  rw[this];exact .one h
theorem bp8{O:cq}{I:Opq}{v:Value}{a:AV}(h:Bc v=some a):VR O I a v:=by
 unfold Bc at h;split at h<;>first
  |(grind[Option.some.injEq,VR])
  |simp at h
theorem c26{v:Value}{a:AV}(h:Bc v=some a):a.one=true:=by
 unfold Bc at h;split at h<;>first
  |(simp only[j0]at h;subst h;rfl)
  |simp at h
theorem Yi{O:cq}{I:Opq}: ∀{l:List Value} {cs:List AV},l.mapM Bc=some cs->ct O I cs l
 | [],cs,h=>by simp at h;subst h;rfl
 |v::r,cs,h=>by
  simp[M5,Option.bind_eq_bind,o8,Option.pure_def,j0]at h;obtain⟨a,ha,b,hb,rfl⟩:=h;exact .cons (bp8 ha) (Yi hb)
theorem vF{O:cq}{I:Opq}{v:Value}{a:AV}(h:xG v=some a):VR O I a v:=by
 unfold xG at h;split at h
 .simp at h;obtain⟨cs,hc,rfl⟩:=h;exact⟨_,rfl,Yi hc⟩
 .split at h
  .rename_i vs l e;simp at h;subst h;exact⟨vs,rfl,e⟩
  .cases h
 .exact bp8 h
inductive ERs (O:cq) (I:Opq):List Ent->List MapEntry->Prop where
 |nil:ERs O I [] []
 |cons {e:Ent} {r:List Ent} {k v:Value} {m:List MapEntry}:VR O I e.key k->VR O I e.val v->ERs O I r m->ERs O I (e::r) (⟨k,v,e.born⟩::m)
theorem ERs.mono{O ac:cq}{I:Opq}(hl:Le O ac){a:List Ent}{m:List MapEntry}(h:ERs O I a m):ERs ac I a m:=by
 induction h with
 |nil=>exact .nil
 |cons p q _ ih=>exact .cons (VR.mono hl _ _ p) (VR.mono hl _ _ q) ih
theorem ERs.length{O:cq}{I:Opq}{a:List Ent}{m:List MapEntry}(h:ERs O I a m):m.length=a.length:=by
 induction h with
 |nil=>rfl
 |cons _ _ _ ih=>simp[ih]
def TR(O:cq)(I:Opq)(t:TF)(nt:Nat)(tmps:Array Value):Prop:=tmps.size=nt/\nt<=256/\ ∀n,VR O I (t.get n) (tmps.getD n Go.undef)
theorem TR.mono{O ac:cq}{I:Opq}(hl:Le O ac){t:TF}{nt:Nat}{tmps:Array Value}(h:TR O I t nt tmps):TR ac I t nt tmps:=
 ⟨h.1,h.2.1,λn=>VR.mono hl _ _ (h.2.2 n)⟩
def IR(O:cq):Option Nat->Option Nat->Prop
 |none,m=>m=none
 |some r,m=> ∃L,O r=some L/\m=some L.blk
theorem IR.mono{O ac:cq}(hl:Le O ac){a b:Option Nat}(h:IR O a b):IR ac a b:=by
 cases a with
 |none=>exact h
 |some r=>obtain⟨L,e,x⟩:=h;exact⟨L,hl _ _ e,x⟩
def gX(c:CT)(x:Val):Value:=match c with
 | .int k=> .int k x.toI
 | .str=> .string ⟨x.toS.toArray⟩
 | .bool=> .bool x.toB
def ej(sig:List CT)(r:Val):List Value:=(List.range sig.length).map λj=>gX (sig.getD j .bool) (r.toL.getD j default)
def cM(sig:List CT)(l:List Val):List Value:=l.flatMap (ej sig)
def kV:List Value->Value
 | [v]=>v
 |vs=> .agg vs.toArray
def qY(ks vs:List CT)(r:Val):Value×Value:=(kV ((ej (ks++vs) r).take ks.length),kV ((ej (ks++vs) r).drop ks.length))
def gP(d:Bool)(E:List MapEntry)(c:Nat):Prop:=(E.map (·.born)).Pairwise (· < ·)/\(∀e∈E,e.born<c)/\(d=true->E.map (·.born)=List.range c)
theorem gP.nil(c:Nat):gP (Nat.beq c 0) [] c:=by
 (constructor<;>simp_all)
theorem gP.weak{d d':Bool}{E:List MapEntry}{c:Nat}(h:gP d' E c)(hd:(!d||d')=true):gP d E c:=⟨h.1,h.2.1,λe=>h.2.2 (by grind)⟩
def BR(O:cq)(I:Opq)(L:Loc)(o:Option Obj):Blk->Prop
 | .cells e fz cs=> ∃C lo hi vs,o=some (.cells C e (lo,hi))/\L.off+L.ext<=C.size/\cs.length<=L.ext/\cs.all AV.oneA=true/\ct O I cs vs/\
  (∀i,i<cs.length->C[L.off+i]? =vs[i]?)/\(∀i,fz<=i->i<L.ext-> ¬(lo<=L.off+i/\L.off+i<hi))/\(I.fix e=true->L.off=0)
 | .arr e sig l=> ∃C e' lo hi,o=some (.cells C e' (lo,hi))/\(e'=e\/e=jM)/\L.off+L.ext<=C.size/\(dL I l).length*sig.length<=L.ext/\
  (∀i v,(cM sig (dL I l))[i]? =some v->C[L.off+i]? =some v)/\(∀i,i<L.ext-> ¬(lo<=L.off+i/\L.off+i<hi))
 | .map es c=> ∃E,o=some (.map E c)/\ERs O I es E.toList
 | .marr d ks vs l=> ∃E c,o=some (.map E c)/\(E.toList.map λe=>(e.key,e.val))=(dL I l).map (qY ks vs)/\gP d E.toList c
 | .bag e sig l=> ∃D:List Val,D.Perm (dL I l)/\ ∃C e' lo hi,o=some (.cells C e' (lo,hi))/\(e'=e\/e=jM)/\L.off+L.ext<=C.size/\D.length*sig.length<=L.ext/\
  (∀i v,(cM sig D)[i]? =some v->C[L.off+i]? =some v)/\(∀i,i<L.ext-> ¬(lo<=L.off+i/\L.off+i<hi))
 | .mrg it d ks vs l=> ∃E c Li,o=some (.map E c)/\O it=some Li/\Li.ext=c/\(E.toList.map λe=>(e.key,e.val))=(dL I l).map (qY ks vs)/\gP d E.toList c
 | .vec cs=> ∃C e lo hi vs,o=some (.cells C e (lo,hi))/\ct O I cs vs/\ ∀i,i<cs.length->C[L.off+i]? =vs[i]?
 | .mit m=>L.off=0/\ ∃Lm,O m=some Lm/\o=some (.mapIter (some Lm.blk) L.ext #[] L.ext)
 | .strIter s pos=>L.off=0/\o=some (.stringIter ⟨s.toArray⟩ pos)
 | .mapIter m since seen last=>L.off=0/\ ∃m',o=some (.mapIter m' since seen.toArray last)/\IR O m m'
 | .loop st pend fn tm nt ps as body d=> ∃tmps f' Ld,o=some (.loop {state:=st,pending:=pend,fn:=f',tmps:=tmps,params:=ps,assign:=as,body:=body,defers:=Ld.blk})/\O d=some Ld/\TR O I tm nt tmps
 | .defd taken=>o=some (.deferred (if taken then none else some []))
theorem BR.mono{O ac:cq}{I:Opq}(hl:Le O ac){L:Loc}{o:Option Obj}{x:Blk}(h:BR O I L o x):BR ac I L o x:=by
 cases x with
 |cells e fz cs=>obtain⟨C,lo,hi,vs,h1,h2,h3,h4,h5,h6⟩:=h;exact⟨C,lo,hi,vs,h1,h2,h3,h4,ct.mono hl _ _ h5,h6⟩
 |arr e sig l=>exact h
 |map es c=>obtain⟨E,h1,h2⟩:=h;exact⟨E,h1,h2.mono hl⟩
 |marr d ks vs l=>exact h
 |bag e sig l=>exact h
 |mrg it d ks vs l=>obtain⟨E,c,Li,h1,h2,h3⟩:=h;exact⟨E,c,Li,h1,hl _ _ h2,h3⟩
 |mit m=>obtain⟨h0,Lm,h1,h2⟩:=h;exact⟨h0,Lm,hl _ _ h1,h2⟩
 |vec cs=>obtain⟨C,e,lo,hi,vs,h1,h2,h3⟩:=h;exact⟨C,e,lo,hi,vs,h1,ct.mono hl _ _ h2,h3⟩
 |strIter s pos=>exact h
 |mapIter m since seen last=>obtain⟨h0,m',h1,h2⟩:=h;exact⟨h0,m',h1,h2.mono hl⟩
 |loop st pend fn tm nt ps as body d=>obtain⟨tmps,f',Ld,h1,h2,h3⟩:=h;exact⟨tmps,f',Ld,h1,hl _ _ h2,h3.mono hl⟩
 |defd t=>exact h
def Blk.isArr:Blk->Bool
 | .arr _ _ _=>true
 | .bag _ _ _=>true
 | .vec _=>true
 |_=>false
structure HR (O:cq) (I:Opq) (K:Nat->Prop) (w0:World) (h:Heap) (w:World):Prop where
 blk: ∀b x L,h.get b=some x->O b=some L->BR O I L w.heap[L.blk]? x
 sep: ∀b b' x x' L L',h.get b=some x->h.get b'=some x'->O b=some L->O b'=some L'->b≠b'->h.wm<=b\/h.wm<=b'\/x.isArr=false\/x'.isArr=false->L.blk≠L'.blk
 fresh: ∀b,h.next<=b->O b=none
 fget: ∀b,h.next<=b->h.get b=none
 lt: ∀b L,O b=some L->L.blk<w.heap.size
 kin: ∀i,K i->i<w0.heap.size
 keep: ∀i,K i->w.heap[i]? =w0.heap[i]?
 free: ∀b x L,h.get b=some x->h.wm<=b->O b=some L-> ¬K L.blk
 size:w0.heap.size<=w.heap.size
 os:w.os=w0.os
 tape:w.tape=w0.tape
 out:w.output=w0.output
 dr:w0.drawn<=w.drawn
inductive RowB:Option Blk->Prop where
 |arr (e:TypeId) (sig:List CT) (l:SX):RowB (some (.arr e sig l))
 |bag (e:TypeId) (sig:List CT) (l:SX):RowB (some (.bag e sig l))
theorem RowB.of{x:Option Blk}{e:TypeId}{sig:List CT}{l:SX}(h:x=some (.arr e sig l)):RowB x:=h▸ .arr e sig l
structure St (h:Heap) (O:cq) (h':Heap) (ac:cq):Prop where
 le:h.next<=h'.next
 ext: ∀b,b<h.next->ac b=O b
 unm: ∀b,b<h.next->O b=none->h'.get b=h.get b\/h'.get b=none\/RowB (h.get b)
 wm:h'.wm=h.wm
theorem St.refl(h:Heap)(O:cq):St h O h O:=⟨e9 _,λ_ _=>rfl,λ_ _ _=> .inl rfl,rfl⟩
theorem St.trans{h h' h'':Heap}{O ac am:cq}(s:St h O h' ac)(t:St h' ac h'' am):St h O h'' am:=
 ⟨m7 s.le t.le,λb hb=>(t.ext b (x9 hb s.le)).trans (s.ext b hb),
  λb hb hn=>by
   rcases t.unm b (x9 hb s.le) ((s.ext b hb).trans hn)with h1|h1|h1
   .rcases s.unm b hb hn with h2|h2|h2
    ·(intros;simp_all)
    ·(intros;simp_all)
    grind
   .grind
   .rcases s.unm b hb hn with h2|h2|h2
    ·(intros;simp_all)
    .rw[h2]at h1;cases h1
    grind,t.wm.trans s.wm⟩
theorem St.Le{O:cq}{I:Opq}{K:Nat->Prop}{w0 w:World}{h h':Heap}{ac:cq}(s:St h O h' ac)(r:HR O I K w0 h w):Le O ac:=by
 intro b L e;rw[s.ext b]
 .exact e
 .rcases j9 b h.next with hb|hb
  .exact hb
  .rw[r.fresh b hb]at e;cases e
theorem HR.drew{O:cq}{I:Opq}{K:Nat->Prop}{w0 w:World}{h:Heap}(r:HR O I K w0 h w):HR O I K w0 h w.drew:=
 ⟨r.blk,r.sep,r.fresh,r.fget,r.lt,r.kin,r.keep,r.free,r.size,r.os,r.tape,r.out,M6 r.dr⟩
def cq.add(O:cq)(n:Nat)(L:Loc):cq:=λb=>if b=n then some L else O b
theorem HR.new{O:cq}{I:Opq}{K:Nat->Prop}{w0 w:World}{h:Heap}(r:HR O I K w0 h w)(o:Obj)(x:Blk)(off ext:Nat)
 (hx:BR (O.add h.next ⟨w.heap.size,off,ext⟩) I ⟨w.heap.size,off,ext⟩ (some o) x):
 HR (O.add h.next ⟨w.heap.size,off,ext⟩) I K w0 (h.new x) (w.alloc o)/\St h O (h.new x) (O.add h.next ⟨w.heap.size,off,ext⟩):=by
 have hst:St h O (h.new x) (O.add h.next ⟨w.heap.size,off,ext⟩):=by
  refine⟨by simp,λb hb=> ?_,λb hb _=> ?_,rfl⟩
  .simp only[cq.add];grind
  .left;rw[Heap.get_new,b9 (by omega)]
 have hle:=hst.Le r;have hold: ∀i,i<w.heap.size->(w.alloc o).heap[i]? =w.heap[i]? :=λi hi=>RowKit.Below.heap_alloc _ _ _ hi
 have kL:(w.alloc o).heap[w.heap.size]? =some o:=by show(w.heap.push o)[w.heap.size]? =_;simp
 refine⟨⟨?_,?_,?_,?_,?_,r.kin,?_,?_,?_,r.os,r.tape,r.out,r.dr⟩,hst⟩
 .intro b y L hg hb;rw[Heap.get_new]at hg;by_cases e:b=h.next
  .subst e;rw[e8 rfl]at hg;split at hg
   .simp only[j0]at hg;subst hg;simp only[cq.add,if_true,j0]at hb;(intros;grind)
   grind
  .rw[b9 e]at hg;simp only[cq.add,b9 e]at hb;rw[hold _ (r.lt b L hb)];exact(r.blk b y L hg hb).mono hle
 .intro b b' y y' L L' hg hg' hb hb' hne hw;rw[Heap.get_new]at hg hg';by_cases e:b=h.next
  .by_cases e':b'=h.next
   .omega
   .subst e;simp only[cq.add,if_true,j0]at hb;subst hb;simp only[cq.add,b9 e']at hb';exact Nat.ne_of_gt (r.lt b' L' hb')
  .simp only[cq.add,b9 e]at hb;rw[b9 e]at hg;by_cases e':b'=h.next
   .subst e';simp only[cq.add,if_true,j0]at hb';subst hb';exact P6 (r.lt b L hb)
   .simp only[cq.add,b9 e']at hb';rw[b9 e']at hg';exact r.sep b b' y y' L L' hg hg' hb hb' hne hw
 .intro b hb;simp only[Heap.next_new]at hb;simp only[cq.add];rw[b9 (by omega)];exact r.fresh b (by omega)
 .intro b hb;simp only[Heap.next_new]at hb;rw[Heap.get_new,b9 (by omega)];exact r.fget b (by omega)
 .intro b L hb;rw[World.size_alloc];simp only[cq.add]at hb;split at hb
  .grind
  .exact Nat.lt_succ_of_lt (r.lt b L hb)
 .intro i hi;rw[hold i (x9 (r.kin i hi) r.size)];exact r.keep i hi
 .intro b y L hg hw hb;rw[Heap.get_new]at hg;by_cases e:b=h.next
  .subst e;simp only[cq.add,if_true,j0]at hb;subst hb;intro hk;exact absurd (r.kin _ hk) (C8.2 r.size)
  .rw[b9 e]at hg;simp only[cq.add,b9 e]at hb;exact r.free b y L hg hw hb
 .rw[World.size_alloc];exact M6 r.size
theorem HR.upd{O:cq}{I:Opq}{K:Nat->Prop}{w0 w w':World}{h:Heap}(r:HR O I K w0 h w)(b:Nat)(x0 x:Blk)(L:Loc)
 (hg:h.get b=some x0) (hb:O b=some L) (hwm:h.wm<=b)
 (hother: ∀i,i≠L.blk->w'.heap[i]? =w.heap[i]?) (hsz:w'.heap.size=w.heap.size) (hos:w'.os=w.os) (htp:w'.tape=w.tape) (hout:w'.output=w.output) (hdr:w'.drawn=w.drawn)
 (hx:BR O I L w'.heap[L.blk]? x):HR O I K w0 (h.put b (some x)) w'/\St h O (h.put b (some x)) O:=by
 refine⟨⟨?_,?_,r.fresh,?_,?_,r.kin,?_,?_,?_,hos.trans r.os,htp.trans r.tape,hout.trans r.out,by rw[hdr];exact r.dr⟩,⟨e9 _,λ_ _=>rfl,?_,rfl⟩⟩
 .intro b' y L' hg' hb';rw[Heap.get_put]at hg';by_cases e:b'=b
  .grind
  .rw[b9 e]at hg';rw[hother _ (r.sep b' b y x0 L' L hg' hg hb' hb e (.inr (.inl hwm)))];exact r.blk b' y L' hg' hb'
 .intro b1 b2 y y' L1 L2 h1 h2 h3 h4 hne hw;rw[Heap.get_put]at h1 h2;by_cases e1:b1=b
  .subst e1;rw[b9 (Ne.symm hne)]at h2;exact r.sep b1 b2 x0 y' L1 L2 hg h2 h3 h4 hne (.inl hwm)
  .rw[b9 e1]at h1;by_cases e2:b2=b
   .subst e2;exact r.sep b1 b2 y x0 L1 L2 h1 hg h3 h4 hne (.inr (.inl hwm))
   .rw[b9 e2]at h2;exact r.sep b1 b2 y y' L1 L2 h1 h2 h3 h4 hne hw
 .intro b' hb';rw[Heap.get_put];by_cases e:b'=b
  .subst e;rw[r.fget b' hb']at hg;cases hg
  .rw[b9 e];exact r.fget b' hb'
 .intro b' L' hb';rw[hsz];exact r.lt b' L' hb'
 .intro i hi;rw[hother i (λe=>r.free b x0 L hg hwm hb (e▸hi))];exact r.keep i hi
 .intro b' y L' hg' hw' hb';rw[Heap.get_put]at hg';by_cases e:b'=b
  .subst e;exact r.free b' x0 L' hg hw' hb'
  .rw[b9 e]at hg';exact r.free b' y L' hg' hw' hb'
 .rw[hsz];exact r.size
 .intro b' _ hn;left;rw[Heap.get_put,b9];grind
theorem HR.drop{O:cq}{I:Opq}{K:Nat->Prop}{w0 w:World}{h:Heap}(r:HR O I K w0 h w)(b:Nat):
 HR O I K w0 (h.put b none) w/\St h O (h.put b none) O:=by
 have hg: ∀b' y,(h.put b none).get b'=some y->b'≠b/\h.get b'=some y:=by
  intro b' y hg;rw[Heap.get_put]at hg
  (intros;simp_all)
 refine⟨⟨λb' y L' h1=>r.blk b' y L' (hg _ _ h1).2,λb1 b2 y y' L1 L2 h1 h2=>r.sep b1 b2 y y' L1 L2 (hg _ _ h1).2 (hg _ _ h2).2,r.fresh,?_,r.lt,r.kin,r.keep,
  λb' y L' h1=>r.free b' y L' (hg _ _ h1).2,r.size,r.os,r.tape,r.out,r.dr⟩,⟨e9 _,λ_ _=>rfl,?_,rfl⟩⟩
 .intro b' hb';rw[Heap.get_put];split
  .split<;>rfl
  .exact r.fget b' hb'
 .intro b' _ _;rw[Heap.get_put]
  (split<;>simp_all)
theorem HR.kill{O:cq}{I:Opq}{K:Nat->Prop}{w0 w:World}{h:Heap}(r:HR O I K w0 h w)(b:Nat)(L:Loc)(hb:O b=some L):
 HR O I K w0 (h.put b none) w/\St h O (h.put b none) O:=r.drop b
theorem HR.retell{O:cq}{I:Opq}{K:Nat->Prop}{w0 w:World}{h:Heap}{b:Nat}{x y:Blk}(r:HR O I K w0 h w)(hg:h.get b=some x)(hk:h.wm<=b\/x.isArr=false)(hbr: ∀L,O b=some L->BR O I L w.heap[L.blk]? x->BR O I L w.heap[L.blk]? y){h2:Heap}(h2n:h2.next=h.next)(h2w:h2.wm=h.wm)
 (h2g: ∀z,h2.get z=if z=b then some y else h.get z):HR O I K w0 h2 w:=by
 have key: ∀z u,h2.get z=some u-> ∃v,h.get z=some v/\(∀L,O z=some L->BR O I L w.heap[L.blk]? v->BR O I L w.heap[L.blk]? u)/\(h.wm<=z\/v.isArr=false\/v=u):=by
  grind
 refine⟨λx y L hy hL=> ?_,λx x' y y' L L' hy hy' hL hL' hne hw=> ?_,λx hx=>r.fresh x (by omega),λx hx=> ?_,r.lt,r.kin,r.keep,λx y L hy hw hL=> ?_,r.size,r.os,r.tape,r.out,r.dr⟩
 .obtain⟨z,z1,z2,_⟩:=key x y hy;exact z2 L hL (r.blk x z L z1 hL)
 .obtain⟨z,z1,_,z3⟩:=key x y hy;obtain⟨z',z1',_,z3'⟩:=key x' y' hy';refine r.sep x x' z z' L L' z1 z1' hL hL' hne ?_;grind
 .have:=r.fget x (by(intros;grind));grind
 .obtain⟨z,z1,_⟩:=key x y hy;exact r.free x z L z1 (by omega) hL
end Go.Ev
