import GoSem.Step
import Derived.RangeFuncLeaves
import Derived.WalkKit
set_option linter.all false
noncomputable section
namespace Go.Ev
open Go
abbrev abi:= Array (Nat×Value)
abbrev abc:= List Field
abbrev abb:= Array MapEntry
abbrev aba:= Option Value
abbrev aa9:= Option Code
abbrev aa8:= Option Addr
abbrev aa6:= List (Nat×Operand)
abbrev aa5:= Option TypeDesc
abbrev aa4:= List MemPlace
abbrev aa0:= Option Operand
abbrev aaZ:= Option (Nat×Nat)
abbrev aaY:= Option Obj
abbrev aaW:= Array Oper
abbrev aaU:= List Deferred
abbrev aaT:= List ResultVar
abbrev aaQ:= List (Nat×List Nat)
abbrev aaK:= Option Tmp
abbrev aaI:= Array Bool
abbrev aaE:= List Int
abbrev aaC:= List MapEntry
abbrev aaB:= List (Int×Int)
abbrev aaz:= List Oper
abbrev aaw:= Array TypeId
abbrev tT:= Array Value
abbrev uq:= List Nat
abbrev S8:= Option Bool
abbrev mB:= Option Nat
abbrev An:= Operand
abbrev Ac:= World
abbrev wW:= Nat->Prop
abbrev yJ:= Program
abbrev wI:= List Value
abbrev zR:= List UInt8
abbrev zX:= TypeId
abbrev Zl:= Value
abbrev b9:=@if_neg
abbrev i6:=@if_pos
abbrev j0:=@decide_eq_true
abbrev j5:=@Option.some.injEq
abbrev j6:=@Nat.le_refl
abbrev j7:=@of_decide_eq_true
abbrev j8:=@Bool.and_eq_true
abbrev j9:=@decide_eq_false
abbrev k5:=@List.getD_eq_getElem?_getD
abbrev k6:=@List.mem_map
abbrev k7:=@List.length_map
abbrev k8:=@Nat.lt_or_ge
abbrev k9:=@List.length_append
abbrev l5:=@List.all_eq_true
abbrev l7:=@List.mem_filter
abbrev m7:=@List.getElem?_eq_getElem
abbrev m8:=@List.map_cons
abbrev m9:=@List.mem_singleton
abbrev n7:=@Bool.false_eq_true
abbrev n8:=@List.length_take
abbrev n9:=@Nat.zero_add
abbrev o7:=@List.mem_range
abbrev o8:=@Option.bind_eq_some_iff
abbrev o9:=@List.map_map
abbrev p7:=@List.mem_cons
abbrev p8:=@Bool.false_and
abbrev p9:=@Nat.le_trans
abbrev s6:=@List.map_append
abbrev s7:=@Bool.not_eq_true'
abbrev s8:=@Nat.zero_le
abbrev s9:=@List.getElem?_append_right
abbrev t7:=@Bool.or_eq_true
abbrev t8:=@List.mem_append
abbrev u9:=@Option.map_eq_some_iff
abbrev v7:=@Bool.not_eq_true
abbrev v8:=@List.getElem?_eq_none
abbrev x5:=@List.append_nil
abbrev x6:=@Array.getD_eq_getD_getElem?
abbrev x7:=@List.mem_flatMap
abbrev x8:=@Int.le_refl
abbrev x9:=@Nat.add_mul
abbrev y5:=@List.getElem?_append_left
abbrev y6:=@Prod.mk.injEq
abbrev y7:=@Nat.lt_of_lt_of_le
abbrev y8:=@List.take_append_drop
abbrev y9:=@List.mem_cons_of_mem
abbrev A0:=@List.append_assoc
abbrev A1:=@List.map_congr_left
abbrev A2:=@Nat.add_assoc
abbrev A3:=@List.any_eq_true
abbrev A4:=@List.any_eq_false
abbrev A5:=@List.flatMap_cons
abbrev A6:=@List.getElem?_eq_some_iff
abbrev A7:=@List.mem_cons_self
abbrev A8:=@List.find?_eq_none
abbrev A9:=@Bool.eq_iff_iff
abbrev B0:=@List.filter_cons
abbrev B1:=@List.take_length
abbrev B2:=@Nat.mul_le_mul_right
abbrev B3:=@Array.getElem?_eq_getElem
abbrev B4:=@List.getElem_of_mem
abbrev B5:=@List.pairwise_cons
abbrev B6:=@List.getElem_mem
abbrev B7:=@List.getD_cons_zero
abbrev B8:=@List.getD_cons_succ
abbrev B9:=@List.getElem?_map
abbrev C0:=@Nat.min_eq_left
abbrev C1:=@Bool.false_or
abbrev C3:=@List.length_eq_zero_iff
abbrev C4:=@List.filter_append
abbrev C5:=@List.getElem?_take
abbrev C6:=@List.length_set
abbrev C7:=@Bool.and_true
abbrev C8:=@Bool.not_true
abbrev C9:=@List.eq_nil_of_length_eq_zero
abbrev D6:=@List.getElem?_drop
abbrev D7:=@Array.getElem?_eq_none
abbrev D8:=@Nat.le_add_right
abbrev D9:=@List.not_mem_nil
abbrev E2:=@Bool.eq_false_or_eq_true
abbrev E3:=@Nat.le_of_mul_le_mul_right
abbrev E4:=@List.nodup_cons
abbrev E5:=@List.filter_sublist
abbrev E6:=@Nat.not_lt
abbrev E7:=@Nat.add_comm
abbrev E8:=@Array.toList_modify
abbrev F5:=@Nat.sub_self
abbrev F6:=@List.mem_append_left
abbrev F7:=@List.pairwise_map
abbrev F8:=@List.range'_succ
abbrev F9:=@Nat.one_mul
abbrev G0:=@Array.toList_push
abbrev G1:=@List.take_left
abbrev G2:=@List.drop_left
abbrev G3:=@List.perm_ext_iff_of_nodup
abbrev G4:=@List.pairwise_iff_getElem
abbrev G5:=@List.Perm.refl
abbrev G6:=@List.map_id
abbrev G7:=@List.nodup_iff_pairwise_ne
abbrev G8:=@List.getElem_map
abbrev G9:=@Nat.lt_trichotomy
abbrev I0:=@List.all_append
abbrev I1:=@List.ext_getElem
abbrev I2:=@Bool.true_and
abbrev I3:=@List.mem_of_getElem?
abbrev I4:=@List.size_toArray
abbrev I5:=@Array.toList_inj
abbrev I6:=@Nat.add_sub_cancel_left
abbrev I7:=@List.map_nil
abbrev I8:=@Bool.or_false
abbrev I9:=@Nat.beq_eq
abbrev J0:=@List.nodup_append
abbrev J1:=@List.length_filter_le
abbrev J2:=@Bool.and_eq_false_iff
abbrev J3:=@List.find?_range_eq_none
abbrev J4:=@Nat.lt_irrefl
abbrev J5:=@List.foldl_append
abbrev J6:=@List.Pairwise.imp
abbrev J7:=@List.forIn_cons
abbrev J8:=@Bool.not_false
abbrev J9:=@Nat.mul_le_mul
abbrev K0:=@List.getElem?_toArray
abbrev K1:=@Nat.zero_mul
abbrev K2:=@List.flatMap_append
abbrev K3:=@List.range_eq_range'
abbrev K4:=@List.ext_getElem?
abbrev K5:=@List.length_drop
abbrev K6:=@List.take_of_length_le
abbrev K7:=@List.drop_eq_nil_of_le
abbrev K8:=@List.drop_zero
abbrev K9:=@Array.getElem?_setIfInBounds
abbrev M3:=@Nat.le_of_not_lt
abbrev M4:=@Bool.or_eq_false_iff
abbrev M5:=@Nat.mul_comm
abbrev M6:=@List.flatMap_map
abbrev M7:=@Int.not_le
abbrev M8:=@Int.mul_comm
abbrev M9:=@Int.add_mul
abbrev N0:=@Int.add_zero
abbrev N1:=@Nat.mul_le_mul_left
abbrev N2:=@Nat.mul_div_le
abbrev N3:=@List.mapM_cons
abbrev N4:=@Nat.le_succ_of_le
abbrev N5:=@List.drop_append
abbrev N6:=@List.drop_drop
abbrev N7:=@Nat.eq_zero_or_pos
abbrev N8:=@Nat.mod_lt
abbrev N9:=@List.cons.inj
abbrev O0:=@List.range_succ_eq_map
abbrev O1:=@List.map_set
abbrev O2:=@Option.some.inj
abbrev O3:=@List.drop_of_length_le
abbrev O4:=@List.mem_append_right
abbrev O5:=@List.nodup_range
abbrev O6:=@Int.not_lt
abbrev O7:=@Prod.ext
abbrev O8:=@List.take_add_one
abbrev O9:=@Int.emod_nonneg
abbrev P0:=@Int.emod_lt_of_pos
abbrev P3:=@List.take_append_getElem
abbrev P4:=@List.length_pos_iff
abbrev P5:=@Int.mul_add
abbrev P6:=@List.filter_cons_of_neg
abbrev P7:=@List.filter_eq_self
abbrev P8:=@Nat.not_lt_zero
abbrev P9:=@Nat.min_eq_right
abbrev Q0:=@Bool.true_eq_false
abbrev Q1:=@Nat.ne_of_lt
abbrev Q2:=@Int.fdiv_eq_ediv_of_nonneg
abbrev Q3:=@Nat.add_sub_cancel
abbrev Q4:=@List.take_take
abbrev Q5:=@List.drop_take
abbrev Q6:=@Array.foldl_toList
abbrev Q7:=@Option.isSome_iff_exists
abbrev Q8:=@Array.all_eq_true'
abbrev Q9:=@Array.getElem?_modify
abbrev R0:=@List.mem_of_mem_take
abbrev R1:=@Array.toList_eraseIdx
abbrev R2:=@List.range_succ
abbrev R3:=@List.mem_map_of_mem
abbrev R4:=@Bool.not_not
abbrev R5:=@List.filter_eq_nil_iff
abbrev R6:=@List.drop_eq_getElem_cons
abbrev R7:=@Nat.max_eq_right
abbrev R8:=@Nat.max_eq_left
abbrev S0:=@Array.getElem?_eq_some_iff
abbrev S1:=@List.perm_append_singleton
abbrev S2:=@List.Perm.eq_of_pairwise
abbrev S3:=@List.ne_nil_of_mem
abbrev S4:=@Bool.or_true
abbrev S5:=@List.perm_middle
abbrev S6:=@List.Perm.append_left
abbrev aar:=@Int.toNat_of_nonneg
abbrev T1:=@Bool.and_false
abbrev T2:=@Int.mul_le_mul_of_nonneg_right
abbrev T3:=@Int.mul_nonneg
abbrev T4:=@Int.ediv_self
abbrev T5:=@List.map_eq_flatMap
abbrev T6:=@Nat.le_of_lt
abbrev T7:=@List.mem_iff_getElem
abbrev T8:=@List.filter_cons_of_pos
abbrev T9:=@List.take_append_of_le_length
abbrev U0:=@Nat.lt_mul_div_succ
abbrev U3:=@List.take_succ_eq_append_getElem
abbrev U4:=@Array.mapM_eq_mapM_toList
abbrev U5:=@List.mem_of_mem_drop
abbrev U6:=@List.findIdx?_toArray
abbrev aaa:=@Array.filter_eq_empty_iff
abbrev U8:=@Array.getElem?_append_left
abbrev U9:=@List.eraseIdx_sublist
abbrev V0:=@List.eq_nil_iff_forall_not_mem
abbrev V3:=@List.mem_or_eq_of_mem_set
abbrev V4:=@Array.getElem?_replicate
abbrev V5:=@List.pairwise_reverse
abbrev V6:=@List.filter_reverse
abbrev V7:=@List.eq_nil_or_concat
abbrev V8:=@Int.tmod_eq_emod_of_nonneg
abbrev V9:=@Int.mul_ediv_add_emod
abbrev W0:=@Int.lt_of_mul_lt_mul_left
abbrev W1:=@Option.isNone_iff_eq_none
abbrev W2:=@List.findIdx_getElem
abbrev W3:=@List.findIdx_lt_length
noncomputable section
structure P16 (α:Type)where
 f0:α
 f1:α
 f2:α
 f3:α
 f4:α
 f5:α
 f6:α
 f7:α
 f8:α
 f9:α
 f10:α
 f11:α
 f12:α
 f13:α
 f14:α
 f15:α
structure Dg where
 g:(α:Type)->P16 α->α
 s:(α:Type)->α->P16 α->P16 α
def dg0:Dg:=⟨λ_ t=>t.f0,λ_ x t=>⟨x,t.f1,t.f2,t.f3,t.f4,t.f5,t.f6,t.f7,t.f8,t.f9,t.f10,t.f11,t.f12,t.f13,t.f14,t.f15⟩⟩
def dg1:Dg:=⟨λ_ t=>t.f1,λ_ x t=>⟨t.f0,x,t.f2,t.f3,t.f4,t.f5,t.f6,t.f7,t.f8,t.f9,t.f10,t.f11,t.f12,t.f13,t.f14,t.f15⟩⟩
def dg2:Dg:=⟨λ_ t=>t.f2,λ_ x t=>⟨t.f0,t.f1,x,t.f3,t.f4,t.f5,t.f6,t.f7,t.f8,t.f9,t.f10,t.f11,t.f12,t.f13,t.f14,t.f15⟩⟩
def dg3:Dg:=⟨λ_ t=>t.f3,λ_ x t=>⟨t.f0,t.f1,t.f2,x,t.f4,t.f5,t.f6,t.f7,t.f8,t.f9,t.f10,t.f11,t.f12,t.f13,t.f14,t.f15⟩⟩
def dg4:Dg:=⟨λ_ t=>t.f4,λ_ x t=>⟨t.f0,t.f1,t.f2,t.f3,x,t.f5,t.f6,t.f7,t.f8,t.f9,t.f10,t.f11,t.f12,t.f13,t.f14,t.f15⟩⟩
def dg5:Dg:=⟨λ_ t=>t.f5,λ_ x t=>⟨t.f0,t.f1,t.f2,t.f3,t.f4,x,t.f6,t.f7,t.f8,t.f9,t.f10,t.f11,t.f12,t.f13,t.f14,t.f15⟩⟩
def dg6:Dg:=⟨λ_ t=>t.f6,λ_ x t=>⟨t.f0,t.f1,t.f2,t.f3,t.f4,t.f5,x,t.f7,t.f8,t.f9,t.f10,t.f11,t.f12,t.f13,t.f14,t.f15⟩⟩
def dg7:Dg:=⟨λ_ t=>t.f7,λ_ x t=>⟨t.f0,t.f1,t.f2,t.f3,t.f4,t.f5,t.f6,x,t.f8,t.f9,t.f10,t.f11,t.f12,t.f13,t.f14,t.f15⟩⟩
def dg8:Dg:=⟨λ_ t=>t.f8,λ_ x t=>⟨t.f0,t.f1,t.f2,t.f3,t.f4,t.f5,t.f6,t.f7,x,t.f9,t.f10,t.f11,t.f12,t.f13,t.f14,t.f15⟩⟩
def dg9:Dg:=⟨λ_ t=>t.f9,λ_ x t=>⟨t.f0,t.f1,t.f2,t.f3,t.f4,t.f5,t.f6,t.f7,t.f8,x,t.f10,t.f11,t.f12,t.f13,t.f14,t.f15⟩⟩
def eh3:Dg:=⟨λ_ t=>t.f10,λ_ x t=>⟨t.f0,t.f1,t.f2,t.f3,t.f4,t.f5,t.f6,t.f7,t.f8,t.f9,x,t.f11,t.f12,t.f13,t.f14,t.f15⟩⟩
def eh4:Dg:=⟨λ_ t=>t.f11,λ_ x t=>⟨t.f0,t.f1,t.f2,t.f3,t.f4,t.f5,t.f6,t.f7,t.f8,t.f9,t.f10,x,t.f12,t.f13,t.f14,t.f15⟩⟩
def eh5:Dg:=⟨λ_ t=>t.f12,λ_ x t=>⟨t.f0,t.f1,t.f2,t.f3,t.f4,t.f5,t.f6,t.f7,t.f8,t.f9,t.f10,t.f11,x,t.f13,t.f14,t.f15⟩⟩
def eh6:Dg:=⟨λ_ t=>t.f13,λ_ x t=>⟨t.f0,t.f1,t.f2,t.f3,t.f4,t.f5,t.f6,t.f7,t.f8,t.f9,t.f10,t.f11,t.f12,x,t.f14,t.f15⟩⟩
def eh7:Dg:=⟨λ_ t=>t.f14,λ_ x t=>⟨t.f0,t.f1,t.f2,t.f3,t.f4,t.f5,t.f6,t.f7,t.f8,t.f9,t.f10,t.f11,t.f12,t.f13,x,t.f15⟩⟩
def eh8:Dg:=⟨λ_ t=>t.f15,λ_ x t=>⟨t.f0,t.f1,t.f2,t.f3,t.f4,t.f5,t.f6,t.f7,t.f8,t.f9,t.f10,t.f11,t.f12,t.f13,t.f14,x⟩⟩
def sV(n:Nat):Dg:=bif Nat.ble 8 n then(bif Nat.ble 12 n then(bif Nat.ble 14 n then(bif Nat.ble 15 n then eh8 else eh7)else(bif Nat.ble 13 n then eh6 else eh5))else(bif Nat.ble 10 n then(bif Nat.ble 11 n then eh4 else eh3)else(bif Nat.ble 9 n then dg9 else dg8)))else(bif Nat.ble 4 n then(bif Nat.ble 6 n then(bif Nat.ble 7 n then dg7 else dg6)else(bif Nat.ble 5 n then dg5 else dg4))else(bif Nat.ble 2 n then(bif Nat.ble 3 n then dg3 else dg2)else(bif Nat.ble 1 n then dg1 else dg0)))
def P16.const{α:Type}(x:α):P16 α:=⟨x,x,x,x,x,x,x,x,x,x,x,x,x,x,x,x⟩
inductive Val where
 |D (n:Int)
 |vs (l:zR)
 |B (x:Bool)
 |A (r:List Val)
 deriving Inhabited
abbrev aaj:= Option (Nat×List Val)
abbrev U7:= List Val
def Val.I:Val->Int
 | .D n=>n
 |_=>0
def Val.toS:Val->zR
 | .vs l=>l
 |_=>[]
def Val.Z:Val->Bool
 | .B x=>x
 |_=>false
def Val.L:Val->U7
 | .A r=>r
 |_=>[]
inductive CT where
 |int (k:IntKind)
 |str
 |bool
 deriving DecidableEq
abbrev wD:= List CT
inductive Prim where
 |ar (op:BinOp) (k:IntKind)
 |cmp (op:BinOp)
 |scmp (op:BinOp)
 |cat
 |not
 |and
 |or
 |beq
 |J
 |un (op:UnOp) (k:IntKind)
 |conv (k:IntKind)
 |slen
 |sat
 |ssub
 |Y
 |G
 |lset
 |lcat
 |lsub
 |row
 |imin
 |imax
 |iadd
 |isub
 |sbytes
 |bstr
 |bok
 |mfind (ks:wD)
 |mdel (ks:wD)
 |lrep
 |scnt
 |sidx
 deriving DecidableEq
inductive SX where
 |C (n:Int)
 |cs (l:zR)
 |cb (x:Bool)
 |V (n:Nat)
 |O (p:Prim) (l:List SX)
 |Q (f:Nat) (l:List SX)
 deriving Inhabited
abbrev abf:= Option (IntKind×SX)
abbrev aaS:= List (SX×Bool)
abbrev aaD:= Option SX
abbrev aay:= Option (List SX)
abbrev GF:= List SX
inductive AV where
 |bool (b:Bool)
 |int (k:IntKind) (n:Int)
 |str (s:zR)
 |nilp
 |ptr (b o:Nat)
 |glob (g:Nat)
 |N
 |sl (b o len cap:Nat)
 |us (b o len sz:Nat)
 |es (b o sz:Nat)
 |es0
 |nilm
 |map (r:Nat)
 |nilf
 |func (fn:Fn) (first cap:List AV)
 |yield (l:Nat)
 |nili
 |iface (t:Nat) (v:AV)
 |agg (cs:List AV)
 |V (vs:List AV)
 |opq (n:Nat)
 |Z (k:IntKind) (e:SX)
 |K (e:SX)
 |H (e:SX)
 |osl (b:Nat) (off len:SX) (sz:Nat)
 |optr (b:Nat) (idx:SX) (j sz:Nat)
 |U (b:Nat) (len:SX) (sz:Nat)
 |atl (n:Nat)
 |any
 deriving Inhabited
abbrev abe:= Option (Nat×List AV)
abbrev aaV:= Option (Option AV)
abbrev aaN:= Option (List AV)
abbrev aav:= List (Nat×AV)
abbrev EX:= Option AV
abbrev zw:= List AV
def AV.undef:AV:= .V []
def KH:zR->zR->Bool
 | [],[]=>true
 |a::x,b::y=>bif Nat.beq a.toNat b.toNat then KH x y else false
 |_,_=>false
def Mt:Int->Int->Bool
 | .ofNat a,.ofNat b=>Nat.beq a b
 | .negSucc a,.negSucc b=>Nat.beq a b
 |_,_=>false
mutual
def SX.beq:SX->SX->Bool
 | .C a,.C b=>Mt a b
 | .cs a,.cs b=>KH a b
 | .cb a,.cb b=>a==b
 | .V a,.V b=>Nat.beq a b
 | .O p a,.O q b=>decide (p=q)&&SX.beqs a b
 | .Q p a,.Q q b=>Nat.beq p q&&SX.beqs a b
 |_,_=>false
def SX.beqs:GF->GF->Bool
 | [],[]=>true
 |a::x,b::y=>SX.beq a b&&SX.beqs x y
 |_,_=>false
end
abbrev TF:=P16 (P16 AV)
structure PF where
 g:TF->AV
 s:AV->TF->TF
def Vb(x y:Dg):PF:=⟨λt=>y.g _ (x.g _ t),λv t=>x.s _ (y.s _ v (x.g _ t)) t⟩
def ec0:PF:=⟨λ_=> .undef,λ_ t=>t⟩
def DF(n:Nat):PF:=bif Nat.blt n 256 then Vb (sV (n/16)) (sV (n % 16))else ec0
def TF.get(t:TF)(n:Nat):AV:=(DF n).g t
def TF.set(t:TF)(n:Nat)(v:AV):TF:=(DF n).s v t
def Xi:P16 AV:=P16.const .undef
def TF.empty:TF:=P16.const Xi
inductive ADef where
 |coll (b:Nat)
 |fn (f:FuncId) (cap args:zw)
abbrev aaF:= List ADef
structure Ent where
 key:AV
 val:AV
 born:Nat
abbrev aa2:= Option (Nat×Ent)
abbrev aaJ:= List Ent
def iU:Nat:=4294967295
inductive Blk where
 |cells (elem fz:Nat) (cs:zw)
 |A (elem:Nat) (sig:wD) (l:SX)
 |map (es:aaJ) (clock:Nat)
 |marr (d:Bool) (ks vs:wD) (l:SX)
 |bag (elem:Nat) (sig:wD) (l:SX)
 |mrg (it:Nat) (d:Bool) (ks vs:wD) (l:SX)
 |mit (m:Nat)
 |vec (cs:zw)
 |strIter (s:zR) (pos:Nat)
 |mapIter (m:mB) (since:Nat) (seen:uq) (stepped:Nat)
 |loop (st:LoopState) (pending:aa9) (fn:FuncId) (tm:TF) (nt:Nat) (params:Array Tmp) (assign body:Code) (defers:Nat)
 |defd (taken:Bool)
abbrev aaM:= List Blk
abbrev aaG:= List (Nat×Option Blk)
abbrev aax:= List (Option Blk)
abbrev lW:= Option Blk
abbrev TH:=P16 (P16 (P16 (P16 lW)))
structure PH where
 g:TH->lW
 s:lW->TH->TH
def Tn(x y z u:Dg):PH:=⟨λt=>u.g _ (z.g _ (y.g _ (x.g _ t))),
 λv t=>x.s _ (y.s _ (z.s _ (u.s _ v (z.g _ (y.g _ (x.g _ t)))) (y.g _ (x.g _ t))) (x.g _ t)) t⟩
def JY:PH:=⟨λ_=>none,λ_ t=>t⟩
def uI(n:Nat):PH:=bif !(Nat.blt n 65536)then JY else Tn (sV (n/4096)) (sV (n/256 % 16)) (sV (n/16 % 16)) (sV (n % 16))
structure Heap where
 t:TH
 next:Nat
 wm:Nat
abbrev aaX:= Option Heap
abbrev aaq:= Option (AV×Heap)
def dF7:P16 lW:=P16.const none
def NF:P16 (P16 lW):=P16.const dF7
def Lp:P16 (P16 (P16 lW)):=P16.const NF
def eK(b:Nat)(t:TH)(_ _:Nat):lW:=(uI b).g t
def eh9(b:Nat)(x:lW)(t:TH)(next wm:Nat):Heap:=⟨(uI b).s x t,next,wm⟩
def iT(x:Blk)(t:TH)(next wm:Nat):Heap:=⟨(uI next).s (some x) t,next+1,wm⟩
def Heap.get(h:Heap)(b:Nat):lW:=Heap.rec (eK b) h
def Heap.put(h:Heap)(b:Nat)(x:lW):Heap:=Heap.rec (eh9 b x) h
def Heap.new(h:Heap)(x:Blk):Heap:=Heap.rec (iT x) h
def Heap.empty:Heap:=⟨P16.const Lp,0,0⟩
def dZ(P:yJ)(t:zX):mB:=(P.info? t).map (·.size)
def FX(P:yJ)(t:zX):S8:=(P.underlying t).map λ
 | .struct _| .array _ _=>true
 |_=>false
def zW:Zl->EX
 | .bool b=>some (.bool b)
 | .int k n=>some (.int k n)
 | .string s=>some (.str s.data.toList)
 | .pointer none=>some .nilp
 | .slice none 0 0=>some .N
 | .map none=>some .nilm
 | .nilFunc=>some .nilf
 | .nilIface=>some .nili
 |_=>none
def wZ:Zl->EX
 | .agg cs=>(cs.toList.mapM zW).map .agg
 | .tuple vs=>match vs.toList with
   | []=>some .undef
   |_=>none
 |v=>zW v
def gu(P:yJ)(t:zX):EX:=((P.info? t).bind (·.zero)).bind wZ
def AV.cells:AV->zw
 | .agg cs=>cs
 |v=>[v]
def AV.nt:AV->Bool
 | .V _=>false
 | .any=>false
 |_=>true
def AV.one:AV->Bool
 | .agg _| .V _| .any=>false
 |_=>true
def AV.oneA:AV->Bool
 | .agg _| .V _=>false
 |_=>true
def gQ:Int->Int->Bool
 | .ofNat a,.ofNat b=>Nat.blt a b
 | .negSucc _,.ofNat _=>true
 | .ofNat _,.negSucc _=>false
 | .negSucc a,.negSucc b=>Nat.blt b a
def mR:Int->Int->Bool
 | .ofNat a,.ofNat b=>Nat.beq a b
 | .negSucc a,.negSucc b=>Nat.beq a b
 |_,_=>false
def KV:IntKind->Nat
 | .i8=>128| .i16=>32768| .i32=>2147483648| .i64=>9223372036854775808
 | .u8=>256| .u16=>65536| .u32=>4294967296| .u64=>18446744073709551616
def nH(k:IntKind)(n:Int):Int:=match n with
 | .ofNat m=>bif Nat.blt m (KV k)then .ofNat m else k.wrap (.ofNat m)
 | .negSucc m=>k.wrap (.negSucc m)
def kP:Int->mB
 | .ofNat n=>some n
 | .negSucc _=>none
def uP(op:BinOp)(k:IntKind)(x y:Int):EX:=
 match op with
 | .add=>some (.int k (nH k (x+y)))
 | .sub=>some (.int k (nH k (x-y)))
 | .mul=>some (.int k (nH k (x*y)))
 | .quo=>bif mR y 0 then none else some (.int k (nH k (x.tdiv y)))
 | .rem=>bif mR y 0 then none else some (.int k (x.tmod y))
 | .and=>some (.int k (nH k ((BitVec.ofInt k.bits x&&&BitVec.ofInt k.bits y).toNat)))
 | .or=>some (.int k (nH k ((BitVec.ofInt k.bits x|||BitVec.ofInt k.bits y).toNat)))
 | .xor=>some (.int k (nH k ((BitVec.ofInt k.bits x^^^BitVec.ofInt k.bits y).toNat)))
 | .andNot=>some (.int k (nH k ((BitVec.ofInt k.bits x&&& ~~~(BitVec.ofInt k.bits y)).toNat)))
 | .eql=>some (.bool (mR x y))
 | .neq=>some (.bool (!mR x y))
 | .lss=>some (.bool (gQ x y))
 | .leq=>some (.bool (!gQ y x))
 | .gtr=>some (.bool (gQ y x))
 | .geq=>some (.bool (!gQ x y))
 |_=>none
def Jb(op:BinOp)(k:IntKind)(x y:Int):EX:=
 match kP y with
 |none=>none
 |some y=>
  let n:=min y k.bits
  match op with
  | .shl=>some (.int k (nH k (x*2^n)))
  | .shr=>some (.int k (match x with| .ofNat m=> .ofNat (m/2^n)| .negSucc m=>(Int.negSucc m).fdiv (2^n)))
  |_=>none
def ei0(a:UInt8)(ih:zR->Bool)(y:zR):Bool:=match y with
 | []=>false
 |b::y=>bif Nat.beq a.toNat b.toNat then ih y else false
def wU(x:zR):zR->Bool:=List.rec (motive:=λ_=>zR->Bool) List.isEmpty (λa _=>ei0 a) x
def ltN(y:zR):Bool:=match y with
 | []=>false
 |_::_=>true
def ltS(a:UInt8)(ih:zR->Bool)(y:zR):Bool:=match y with
 | []=>false
 |b::y=>bif Nat.blt a.toNat b.toNat then true else bif Nat.beq a.toNat b.toNat then ih y else false
def iP(x:zR):zR->Bool:=List.rec (motive:=λ_=>zR->Bool) ltN (λa _=>ltS a) x
def Dz:Nat:=4294967296
def CN(op:BinOp)(x y:zR):EX:=
 match op with
 | .add=>bif Nat.blt (x.length+y.length) Dz then some (.str (x++y))else none
 | .eql=>some (.bool (wU x y))
 | .neq=>some (.bool (!wU x y))
 | .lss=>some (.bool (iP x y))
 | .leq=>some (.bool (!iP y x))
 | .gtr=>some (.bool (iP y x))
 | .geq=>some (.bool (!iP x y))
 |_=>none
def Hm:AV->S8
 | .N=>some true
 | .sl _ _ _ _=>some false
 | .us _ _ _ _=>some false
 | .es _ _ _=>some false
 | .es0=>some false
 |_=>none
def KZ:AV->S8
 | .nilm=>some true
 | .map _=>some false
 |_=>none
def KF:AV->S8
 | .nilf=>some true
 | .func _ _ _=>some false
 | .yield _=>some false
 |_=>none
def jK(P:yJ)(t:zX)(cs:zw)(off:Nat):EX:=
 match FX P t,dZ P t with
 |some true,some n=>bif Nat.ble (off+n) cs.length then some (.agg ((cs.drop off).take n))else none
 |some false,some _=>cs[off]?
 |_,_=>none
def uS(P:yJ)(ih:zX->AV->AV->S8)(xs ys:zw):abc->S8
 | []=>some true
 |f::r=>bif f.name== "_" then uS P ih xs ys r else match jK P f.type xs f.offset,jK P f.type ys f.offset with
  |some a,some b=>match ih f.type a b with
   |some true=>uS P ih xs ys r
   |x=>x
  |_,_=>none
def HQ(P:yJ)(ih:zX->AV->AV->S8)(e n:Nat)(xs ys:zw):Nat->Nat->S8
 |0,_=>some true
 |k+1,i=>match jK P e xs (i*n),jK P e ys (i*n)with
  |some a,some b=>match ih e a b with
   |some true=>HQ P ih e n xs ys k (i+1)
   |x=>x
  |_,_=>none
def dF9(P:yJ)(e a o b o':Nat):S8:=match dZ P e with
 |some (_+1)=>bif Nat.beq a b then some (Nat.beq o o')else none
 |_=>none
def kS(P:yJ)(ih:zX->AV->AV->S8)(t:zX)(x y:AV):S8:=
 match P.underlying t with
 |some .bool=>match x,y with
  | .bool a,.bool b=>some (a==b)
  |_,_=>none
 |some (.int _)=>match x,y with
  | .int k a,.int k' b=>if k=k' then some (mR a b)else none
  | .Z k a,.Z k' b=>if k=k' then(bif SX.beq a b then some true else none)else none
  |_,_=>none
 |some .string=>match x,y with
  | .str a,.str b=>some (wU a b)
  | .K a,.K b=>bif SX.beq a b then some true else none
  |_,_=>none
 |some (.pointer e)=>match x,y with
  | .nilp,.nilp=>some true
  | .nilp,.ptr _ _=>some false
  | .ptr _ _,.nilp=>some false
  | .ptr a o,.ptr b o'=>dF9 P e a o b o'
  |_,_=>none
 |some (.interface _)=>match x,y with
  | .nili,.nili=>some true
  | .nili,.iface _ _=>some false
  | .iface _ _,.nili=>some false
  | .iface tx vx,.iface ty vy=>bif Nat.beq tx ty then(match P.info? tx with
   |some i=>bif i.comparable then ih tx vx vy else none
   |none=>none)
   else some false
  |_,_=>none
 |some (.slice _)=>match x,y with
  | .N,b=>Hm b
  |a,.N=>Hm a
  |_,_=>none
 |some (.map _ _)=>match x,y with
  | .nilm,b=>KZ b
  |a,.nilm=>KZ a
  |_,_=>none
 |some (.func _ _ _)=>match x,y with
  | .nilf,b=>KF b
  |a,.nilf=>KF a
  |_,_=>none
 |some (.struct fields)=>match x,y with
  | .agg xs,.agg ys=>bif P.stoodInHeld t then none else uS P ih xs ys fields.toList
  |_,_=>none
 |some (.array len elem)=>match x,y with
  | .agg xs,.agg ys=>match dZ P elem with
    |none=>none
    |some n=>HQ P ih elem n xs ys len 0
  |_,_=>none
 |_=>none
def ei1(_:zX)(_ _:AV):S8:=none
def jx(P:yJ)(n:Nat):zX->AV->AV->S8:=Nat.rec (motive:=λ_=>zX->AV->AV->S8) ei1 (λ_=>kS P) n
def vW:An->Bool
 | .const _=>true
 |_=>false
def Wl(P:yJ)(t:zX)(x y:An)(a b:AV):Bool:=
 match a with
 | .nili=>vW x||vW y||(match b with
   | .nili=>false
   | .opq _=>false
   | .any=>false
   |_=>true)
 | .any=>false
 | .agg _=> !(P.eqGuardType P.depth t)
 | .opq _=>false
 |_=>true
def zT(P:yJ)(op:BinOp)(t:zX)(x y:An)(a b:AV):Bool:=
 match op with
 | .eql| .neq=>Wl P t x y a b
 |_=>true
def Xp(op:BinOp)(k k':IntKind)(a b:Int):EX:=match op with
 | .shl=>Jb .shl k a b
 | .shr=>Jb .shr k a b
 |O=>if k=k' then uP op k a b else none
def ut(P:yJ)(op:BinOp)(t:zX)(x y:AV):EX:=match op with
 | .eql=>(jx P 10000 t x y).map .bool
 | .neq=>(jx P 10000 t x y).map λb=> .bool (!b)
 |_=>none
def VH(op:BinOp)(k:IntKind)(a:Int)(n:Nat):EX:=match op,k with
 | .gtr,.i64=>bif gQ (.ofNat n) a then none else some (.bool false)
 |_,_=>none
def Qd(P:yJ)(op:BinOp)(t:zX)(x y:AV):EX:=
 match x with
 | .int k a=>match y with
   | .int k' b=>Xp op k k' a b
   | .atl n=>VH op k a n
   |_=>none
 | .str a=>match y with
   | .str b=>CN op a b
   |_=>none
 |x=>ut P op t x y
def Nl(op:UnOp)(x:AV):EX:=
 match op,x with
 | .neg,.int k n=>some (.int k (nH k (0-n)))
 | .xor,.int k n=>uP .xor k (if k.signed then-1 else k.max) n
 | .not,.bool b=>some (.bool !b)
 |_,_=>none
def FY(P:yJ)(t:zX)(a:AV)(h:Heap):EX:=
 match a with
 | .ptr b o=>match h.get b with
   |some (.cells _ _ cs)=>jK P t cs o
   |_=>none
 |_=>none
def jy(cs:zw)(o:Nat)(vs:zw):zw:=cs.take o++vs++cs.drop (o+vs.length)
def putCells(h:Heap)(b o:Nat)(vs:zw):aaX:=
 match vs with
 | []=>some h
 |vs=>match h.get b with
  |some (.cells e fz cs)=>
   bif Nat.ble h.wm b&&Nat.ble fz o&&Nat.ble (o+vs.length) cs.length&&vs.all AV.one then some (h.put b (some (.cells e fz (jy cs o vs))))else none
  |_=>none
def Fz(P:yJ)(t:zX)(a v:AV)(h:Heap):aaX:=
 match a,dZ P t with
 | .ptr b o,some n=>bif v.nt&&Nat.beq v.cells.length n then putCells h b o v.cells else none
 |_,_=>none
def DE(t:zX)(v:AV)(h:Heap):aaq:=
 bif v.cells.all AV.one then some (.ptr h.next 0,h.new (.cells t 0 v.cells))else none
def zq(place:Nat->aaZ)(cells:zw):aav->Option zw
 | []=>some cells
 |(i,v)::rest=>
  match place i with
  |none=>none
  |some (off,size)=>bif v.nt&&(Nat.beq v.cells.length size&&Nat.ble (off+v.cells.length) cells.length)then zq place (jy cells off v.cells) rest else none
def RI(P:yJ)(t:zX)(parts:aav):EX:=
 match gu P t,P.underlying t with
 |some z,some (.struct fields)=>(zq (λi=>(fields[i]?).bind λf=>(dZ P f.type).map λs=>(f.offset,s)) z.cells parts).bind λcs=>
  bif fields.all (λf=>(dZ P f.type).isSome)&&z.nt then some (.agg cs)else none
 |some z,some (.array _ elem)=>match dZ P elem with
  |some s=>bif z.nt then(zq (λi=>some (i*s,s)) z.cells parts).map .agg else none
  |none=>none
 |_,_=>none
def dx:Nat->zw->zw
 |0,_=>[]
 |n+1,l=>l++dx n l
def AH(P:yJ)(t:zX)(len:Nat)(parts:aav)(h:Heap):aaq:=
 match P.underlying t with
 |some (.slice elem)=>match dZ P elem,gu P elem with
  |some s,some z=>bif Nat.beq z.cells.length s&&Nat.blt 0 s&&Nat.ble (len*s) 1000000 then
   match zq (λi=>some (i*s,s)) (dx len z.cells) parts with
   |some cs=>bif cs.all AV.one then some (.sl h.next 0 len len,h.new (.cells elem 0 cs))else none
   |none=>none
   else none
  |_,_=>none
 |_=>none
def wO(P:yJ)(t:zX)(l c:AV)(h:Heap):aaq:=
 match P.underlying t,l,c with
 |some (.slice elem),.int _ l,.int _ c=>match kP l,kP c,dZ P elem,gu P elem,P.info? elem with
  |some l,some c,some s,some z,some i=>
   bif Nat.ble l c&&Nat.ble c 1000000&&Nat.ble i.bytes 1000&&Nat.beq z.cells.length s&&Nat.blt 0 s&&z.cells.all AV.one then some (.sl h.next 0 l c,h.new (.cells elem 0 (dx c z.cells)))else none
  |_,_,_,_,_=>none
 |_,_,_=>none
def Nu(P:yJ)(s:zX)(a:AV)(f:Nat):EX:=
 match P.underlying s,a with
 |some (.struct fields),.ptr b o=>match fields[f]? with
  |some f=>match dZ P f.type with
   |some (_+1)=>some (.ptr b (o+f.offset))
   |_=>none
  |none=>none
 |_,_=>none
def MK(P:yJ)(t:zX)(x:AV)(f:Nat):EX:=
 match P.underlying t,x with
 |some (.struct fields),.agg cs=>(fields[f]?).bind λf=>jK P f.type cs f.offset
 |_,_=>none
def Tw(P:yJ)(t:zX)(x i:AV):EX:=
 match i with
 | .int _ i=>match kP i,P.underlying t,x with
   |some i,some (.array len elem),.ptr b o=>match dZ P elem with
    |some s=>bif Nat.blt i len then some (.ptr b (o+i*s))else none
    |none=>none
   |some i,some (.slice elem),.sl b o len _=>match dZ P elem with
    |some s=>bif Nat.blt i len then some (.ptr b (o+i*s))else none
    |none=>none
   |some i,some (.slice elem),.us b o len _=>match dZ P elem with
    |some s=>bif Nat.blt i len then some (.ptr b (o+i*s))else none
    |none=>none
   |_,_,_=>none
 |_=>none
def Qo(P:yJ)(t:zX)(x i:AV):EX:=
 match i with
 | .int _ i=>match kP i,P.underlying t,x with
   |some i,some (.array len elem),.agg cs=>match dZ P elem with
    |some s=>bif Nat.blt i len then jK P elem cs (i*s)else none
    |none=>none
   |some i,some .string,.str s=>(s[i]?).map λb=> .int .u8 b.toNat
   |_,_,_=>none
 |_=>none
def eI(x:EX)(d:Nat):mB:=
 match x with
 |none=>some d
 |some (.int _ i)=>kP i
 |some _=>none
def Rl(P:yJ)(t:zX)(x:AV)(lo hi mx:EX)(h:Heap):EX:=
 match P.underlying t,x with
 |some .string,.str s=>match eI lo 0,eI hi s.length,mx with
  |some l,some e,none=>bif Nat.ble l e&&Nat.ble e s.length then some (.str ((s.drop l).take (e-l)))else none
  |_,_,_=>none
 |some (.slice elem),.N=>match eI lo 0,eI hi 0,eI mx 0,dZ P elem with
  |some 0,some 0,some 0,some _=>some .N
  |_,_,_,_=>none
 |some (.slice elem),.es b o sz=>match eI lo 0,eI hi 0,mx,dZ P elem with
  |some 0,some 0,none,some _=>some (.es b o sz)
  |some 0,some 0,some m,some _=>match eI (some m) 0 with
   |some 0=>some .es0
   |_=>none
  |_,_,_,_=>none
 |some (.slice elem),.es0=>match eI lo 0,eI hi 0,eI mx 0,dZ P elem with
  |some 0,some 0,some 0,some _=>some .es0
  |_,_,_,_=>none
 |some (.slice elem),.sl b o len cap=>match eI lo 0,eI hi len,eI mx cap,dZ P elem with
  |some l,some e,some m,some s=>bif Nat.ble l e&&Nat.ble e m&&Nat.ble m cap then some (.sl b (bif Nat.beq m l then o else o+l*s) (e-l) (m-l))else none
  |_,_,_,_=>none
 |some (.slice elem),.us b o len sz=>match eI lo 0,eI hi len,dZ P elem,h.get b with
  |some l,some e,some s,some (.cells _ _ cs)=>bif Nat.beq s sz&&Nat.ble l e&&Nat.blt 0 s&&Nat.ble (o+e*s) cs.length then
   (match mx with
   |none=>bif Nat.blt (o+l*s) cs.length||Nat.beq l 0 then some (.us b (o+l*s) (e-l) sz)else some (.es b (o+l*s) sz)
   |some m=>match eI (some m) 0 with
    |some m=>bif Nat.ble e m&&Nat.ble (o+m*s) cs.length then some (.sl b (bif Nat.beq m l then o else o+l*s) (e-l) (m-l))else none
    |none=>none)
   else none
  |_,_,_,_=>none
 |some (.array n elem),.ptr b o=>match eI lo 0,eI hi n,eI mx n,dZ P elem with
  |some l,some e,some m,some s=>bif Nat.ble l e&&Nat.ble e m&&Nat.ble m n then some (.sl b (bif Nat.beq m l then o else o+l*s) (e-l) (m-l))else none
  |_,_,_,_=>none
 |_,_=>none
def rR(s n:Nat)(x:AV)(h:Heap):Option zw:=
 match x with
 | .N=>bif Nat.beq n 0 then some []else none
 | .es _ _ _| .es0=>bif Nat.beq n 0 then some []else none
 | .str l=>some ((l.take n).map λb=> .int .u8 b.toNat)
 | .sl b o _ _| .us b o _ _=>match h.get b with
   |some (.cells _ _ cs)=>bif Nat.ble (o+n*s) cs.length&&((cs.drop o).take (n*s)).all AV.one then some ((cs.drop o).take (n*s))else none
   |_=>none
 |_=>none
def gn:AV->mB
 | .N| .es _ _ _| .es0=>some 0
 | .str l=>some l.length
 | .sl _ _ n _| .us _ _ n _=>some n
 |_=>none
def room:Nat:=1000000
def uK(s:Nat)(y:AV)(h:Heap):Option (Nat×zw):=
 match gn y with
 |some n=>(rR s n y h).bind λl=>bif Nat.beq l.length (n*s)then some (n,l)else none
 |none=>none
def ec3(z:zw)(y:AV):Option (Nat×zw):=
 match y with
 | .int _ m=>match kP m with
   |some n=>bif Nat.ble n room&&z.all AV.one&&Nat.blt 0 z.length then some (n,dx n z)else none
   |none=>none
 |_=>none
def SD(P:yJ)(yt:zX)(s:Nat)(z:zw)(y:AV)(h:Heap):Option (Nat×zw):=
 match P.underlying yt with
 |some (.slice _)=>uK s y h
 |some .string=>uK s y h
 |some (.int _)=>ec3 z y
 |_=>none
def Sm(elem s:Nat)(x:AV)(n:Nat)(new:zw)(h:Heap):aaq:=
 match x with
 | .N=>some (.us h.next 0 n s,h.new (.cells elem 0 new))
 | .es0=>some (.us h.next 0 n s,h.new (.cells elem 0 new))
 | .sl b o len cap=>
   bif Nat.ble (len+n) cap then(putCells h b (o+len*s) new).map λh'=>(.sl b o (len+n) cap,h')
   else(rR s len x h).bind λold=>bif Nat.beq old.length (len*s)then some (.us h.next 0 (len+n) s,h.new (.cells elem 0 (old++new)))else none
 | .us b o len sz=>bif !(Nat.beq s sz)then none else match h.get b with
   |some (.cells e fz cs)=>
    bif Nat.ble (o+(len+n)*s) cs.length then(putCells h b (o+len*s) new).map λh'=>(.us b o (len+n) s,h')
    else bif Nat.ble h.wm b&&Nat.ble fz (o+len*s)&&Nat.ble (o+len*s) cs.length&&Nat.beq e elem then
     some (.us h.next 0 (len+n) s,(h.put b none).new (.cells e (fz-o) ((cs.drop o).take (len*s)++new)))
    else none
   |_=>none
 | .es b o sz=>bif !(Nat.beq s sz)then none else match h.get b with
   |some (.cells e fz cs)=>
    bif Nat.ble h.wm b&&Nat.ble fz o&&Nat.beq e elem then some (.us h.next 0 n s,(h.put b none).new (.cells e 0 new))else none
   |_=>none
 |_=>none
def Nt(s:Nat)(x:AV)(h:Heap):Bool:=
 match x with
 | .N=>true
 | .es _ _ _=>true
 | .es0=>true
 | .sl _ _ l c=>Nat.ble l c
 | .us b o l sz=>Nat.beq s sz&&(match h.get b with
   |some (.cells _ _ cs)=>Nat.ble (o+l*s) cs.length
   |_=>false)
 |_=>false
def fj(P:yJ)(t:zX):Bool:=match P.underlying t with
 |some (.struct fs)=>match fs[0]? with
  |some f=>match P.underlying f.type with
   |some (.pointer u)=>Nat.beq u t
   |_=>false
  |none=>false
 |_=>false
def UW(P:yJ)(argTypes:Array zX)(x y:AV)(h:Heap):aaq:=
 match(argTypes[0]?).bind P.underlying,argTypes[1]? with
 |some (.slice elem),some yt=>match gn x,P.info? elem,gu P elem with
  |some lx,some i,some z=>
   match SD P yt i.size z.cells y h with
   |none=>none
   |some (n,new)=>
    bif Nat.blt 0 i.size&&Nat.beq z.cells.length i.size&&Nat.ble (lx+n) room&&Nat.ble i.bytes 1000&&Nat.beq argTypes.size 2&& !(fj P elem)then
     (bif Nat.beq n 0 then(bif Nt i.size x h then some (x,h)else none)else Sm elem i.size x n new h)
    else none
  |_,_,_=>none
 |_,_=>none
def d82(x:AV)(n:Nat)(new:zw)(h:Heap):aaq:=
 match x with
 | .N=>some (.int .i64 n,h)
 | .es _ _ _=>some (.int .i64 n,h)
 | .es0=>some (.int .i64 n,h)
 | .sl b o _ _=>(putCells h b o new).map λh'=>(.int .i64 n,h')
 | .us b o _ _=>(putCells h b o new).map λh'=>(.int .i64 n,h')
 |_=>none
def Ro(P:yJ)(argTypes:Array zX)(x y:AV)(h:Heap):aaq:=
 match(argTypes[0]?).bind P.underlying with
 |some (.slice elem)=>match dZ P elem,gn x,gn y with
  |some s,some lx,some ly=>(rR s (Nat.min ly lx) y h).bind λnew=>d82 x (Nat.min ly lx) new h
  |_,_,_=>none
 |_=>none
def Fl:AV->AV->Bool
 | .bool a,.bool b=>a==b
 | .int k a,.int k' b=>(k==k')&&mR a b
 | .str a,.str b=>wU a b
 |_,_=>false
def RN:zw->zw->Bool
 | [],[]=>true
 |a::x,b::y=>Fl a b&&RN x y
 |_,_=>false
def EA:AV->AV->Bool
 | .agg xs,.agg ys=>RN xs ys
 |x,y=>Fl x y
end
noncomputable section
inductive Ext where
 |ident|count|indexByte|mapsClone|makeNoZero (t:zX)|overlaps (t r:zX)
inductive FK where
 |bin (op:BinOp)|un (op:UnOp)|conv (d:zX)|len|max|min|slc
 deriving DecidableEq
structure LHd where
 id:Nat
 s0:GF
 v0:Nat
 fv:GF
inductive VT where
 |X
 |J (e:SX) (a b:VT)
 |N (e:SX) (x:VT)
 |W (i:Nat) (out:GF)
 |loop (hd:LHd) (body:VT) (ks:List VT)
 |both (a b:VT)
 |mloop (hd:LHd) (l:SX) (body:VT) (ks:List VT)
 deriving Inhabited
abbrev abd:= List VT
inductive Ex where
 |norm|exit (id:Nat)|ret
structure StP where
 slots:aav
 blks:List (Nat×lW)
 next:Nat
structure OwnP where
 slot:Nat
 blk:Nat
 elem:Nat
 sig:wD
 cell:aaZ
 lz:Bool
abbrev aaO:= List OwnP
structure LSpec where
 id:Nat
 owns:aaO
 v0:Nat
 fv:GF
 dead:uq
 head:StP
 exits:List (Ex×StP)
 mapr:Bool:=false
structure Fr where
 tm:TF
 nt:Nat
 pc:aaS
 fn:FuncId
 ds:aaF
 ro:mB
abbrev aaR:= Option (Fr×Heap)
def Fr.slot(a:Fr)(t:Nat):AV:=(DF t).g a.tm
def qh(d:Nat)(v:AV)(tm:TF)(nt:Nat)(pc:aaS)(fn:FuncId)(ds:aaF)(ro:mB):Fr:=bif Nat.blt d nt then⟨tm.set d v,nt,pc,fn,ds,ro⟩else⟨tm,nt,pc,fn,ds,ro⟩
def e12(p:SX×Bool)(tm:TF)(nt:Nat)(pc:aaS)(fn:FuncId)(ds:aaF)(ro:mB):Fr:=⟨tm,nt,p::pc,fn,ds,ro⟩
def dG0(tm:TF)(nt:Nat)(pc:aaS)(fn:FuncId)(ds:aaF)(ro:mB):Fr:=⟨tm,nt,[],fn,ds,ro⟩
def e13(x:mB)(tm:TF)(nt:Nat)(pc:aaS)(fn:FuncId)(ds:aaF)(ro:mB):Fr:=⟨tm,nt,pc,fn,ds,x⟩
def Fr.back(a:Fr)(x:mB):Fr:=Fr.rec (e13 x) a
def e14(m:aaF)(tm:TF)(nt:Nat)(pc:aaS)(fn:FuncId)(ds:aaF)(ro:mB):Fr:=⟨tm,nt,pc,fn,m++ds,ro⟩
def Fr.mark(a:Fr)(m:aaF):Fr:=Fr.rec (e14 m) a
def Fr.clear(a:Fr):Fr:=Fr.rec dG0 a
def Fr.cond(a:Fr)(p:SX×Bool):Fr:=Fr.rec (e12 p) a
def ci1(p:Prim)(l:GF)(d:Int):S8:=match p,l with
 | .imin,[_,.C c]=>bif gQ c d then some true else none
 |_,_=>none
def ci2(p:Prim)(l:GF):S8:=match p,l with
 | .cmp .lss,[.O q x,.C d]=>ci1 q x d
 |_,_=>none
def Lc(e:SX):S8:=match e with
 | .O p l=>ci2 p l
 |_=>none
def yU(e:SX):aaS->S8
 | []=>Lc e
 |p::r=>bif SX.beq e p.1 then some p.2 else yU e r
def Fr.put(a:Fr)(dst:aaK)(v:AV):Fr:=
 match dst with
 |none=>a
 |some d=>Fr.rec (qh d v) a
def Fr.ev(a:Fr):An->EX
 | .tmp t=>some (a.slot t)
 | .const v=>wZ v
 | .global g=>some (.glob g)
 | .func f=>some (.func (.func f) [] [])
inductive Res where
 |val (v:AV) (h:Heap)
 |N (e:SX) (v:AV) (h:Heap)
 |cho (e:SX) (v:AV) (l:zw) (h:Heap)
 |enter (f:FuncId) (args:zw)
 |choice (l:List (AV×Heap))
 |yield (l:Nat) (args:zw)
 |defer (d:ADef)
 |X
structure Env where
 P:yJ
 ext:FuncId->Option Ext
 amb:FuncId->Bool
 caps:FuncId->Bool
 hook:FuncId->zw->Heap->Res
 fact:FK->zw->EX
 lspec:FuncId->Nat->Fr->Heap->Option LSpec
def evs(ρ:An->EX):List An->Option zw
 | []=>some []
 |x::r=>match ρ x,evs ρ r with
  |some v,some vs=>some (v::vs)
  |_,_=>none
def iH(ρ:An->EX):List (Nat×An)->Option aav
 | []=>some []
 |(i,x)::r=>match ρ x,iH ρ r with
  |some v,some vs=>some ((i,v)::vs)
  |_,_=>none
def eD(ρ:An->EX):Option An->Option EX
 |none=>some none
 |some x=>(ρ x).map some
def ov(x:EX)(h:Heap):Res:=match x with
 |some v=> .val v h
 |none=> .X
def oh(x:aaq):Res:=match x with
 |some (v,h)=> .val v h
 |none=> .X
def os(x:aaX):Res:=match x with
 |some h=> .val .undef h
 |none=> .X
def yv(P:yJ)(t:zX):Bool:=match P.underlying t with
 |some .bool=>true
 |some (.int _)=>true
 |some .string=>true
 |_=>false
def qc(P:yJ)(t:zX)(k:AV):Bool:=
 match P.underlying t,k with
 |some .bool,.bool _=>true
 |some (.int _),.int _ _=>true
 |some .string,.str _=>true
 |some (.struct fields),.agg cs=>fields.all λf=>(jK P f.type cs f.offset).isSome&&yv P f.type
 |_,_=>false
def kL(P:yJ)(kt:zX)(k:AV):aaJ->Nat->Option aa2
 | [],_=>some none
 |e::r,i=>match jx P 10000 kt k e.key with
  |some true=>some (some (i,e))
  |some false=>kL P kt k r (i+1)
  |none=>none
def wb:aaJ->Nat->Ent->aaJ
 | [],_,_=>[]
 |_::r,0,x=>x::r
 |e::r,i+1,x=>e::wb r i x
def Lk:aaJ->Nat->aaJ
 | [],_=>[]
 |_::r,0=>r
 |e::r,i+1=>e::Lk r i
def Rj(m:AV)(h:Heap):Option aaJ:=
 match m with
 | .nilm=>some []
 | .map r=>match h.get r with
   |some (.map es _)=>some es
   |_=>none
 |_=>none
def MZ(P:yJ)(t:zX)(m k:AV)(ok:Bool)(h:Heap):EX:=
 match P.underlying t with
 |some (.map kt et)=>bif qc P kt k then
  match Rj m h with
  |none=>none
  |some es=>match kL P kt k es 0 with
   |none=>none
   |some (some (_,e))=>some (bif ok then .V [e.val,.bool true]else e.val)
   |some none=>(gu P et).map λz=>bif ok then .V [z,.bool false]else z
  else none
 |_=>none
def BL(P:yJ)(t:zX)(m k v:AV)(h:Heap):aaX:=
 match P.underlying t,m with
 |some (.map kt _),.map r=>bif qc P kt k&&Nat.ble h.wm r then
  match h.get r with
  |some (.map es c)=>match kL P kt k es 0 with
   |none=>none
   |some (some (i,e))=>bif EA e.key k then some (h.put r (some (.map (wb es i ⟨k,v,e.born⟩) c)))else none
   |some none=>some (h.put r (some (.map (es++[⟨k,v,c⟩]) (c+1))))
  |_=>none
  else none
 |_,_=>none
def IK(P:yJ)(t:zX)(m k:AV)(h:Heap):aaq:=
 match P.underlying t,m with
 |some (.map kt et),.map r=>bif qc P kt k&&Nat.ble h.wm r then
  match h.get r with
  |some (.map es c)=>match kL P kt k es 0 with
   |none=>none
   |some (some (i,e))=>bif EA e.key k then some (.V [e.val,.int .i64 e.born],h.put r (some (.map (wb es i ⟨k,e.val,e.born⟩) c)))else none
   |some none=>(gu P et).map λz=>(.V [z,.int .i64 c],h.put r (some (.map (es++[⟨k,z,c⟩]) (c+1))))
  |_=>none
  else none
 |_,_=>none
def Cb(b:Nat):aaJ->Nat->aa2
 | [],_=>none
 |e::r,i=>bif Nat.beq e.born b then some (i,e)else Cb b r (i+1)
def LU(m s v:AV)(h:Heap):aaX:=
 match m,s with
 | .map r,.int _ s=>match h.get r,kP s with
   |some (.map es c),some b=>match Cb b es 0 with
    |some (i,e)=>bif Nat.ble h.wm r then some (h.put r (some (.map (wb es i ⟨e.key,v,e.born⟩) c)))else none
    |none=>none
   |_,_=>none
 |_,_=>none
def Ui(P:yJ)(t:zX)(m k:AV)(h:Heap):aaX:=
 match P.underlying t,m with
 |some (.map kt _),.map r=>bif qc P kt k&&Nat.ble h.wm r then
  match h.get r with
  |some (.map es c)=>match kL P kt k es 0 with
   |none=>none
   |some (some (i,_))=>some (h.put r (some (.map (Lk es i) c)))
   |some none=>some (h.put r (some (.map es c)))
  |_=>none
  else none
 |_,_=>none
def IP(P:yJ)(t:zX)(x:AV)(h:Heap):aaq:=
 match P.underlying t,x with
 |some .string,.str l=>some (.ptr h.next 0,h.new (.strIter l 0))
 |some (.map _ _),.nilm=>some (.ptr h.next 0,h.new (.mapIter none 0 [] 0))
 |some (.map _ _),.map m=>match h.get m with
  |some (.map _ c)=>some (.ptr h.next 0,h.new (.mapIter (some m) c [] c))
  |some (.marr d ks vs l)=>some (.ptr h.next 0,(h.new (.mit m)).put m (some (.mrg h.next d ks vs l)))
  |_=>none
 |_,_=>none
def sL(es:aaJ)(seen:uq):aaJ:=es.filter λe=> !(seen.contains e.born)
def dG1(r m since:Nat)(seen:uq)(c:Nat)(h:Heap)(left:aaJ):Res:=
 match left with
 | []=> .val (.V [.bool false]) h
 |left=> .choice (left.map λe=>(.V [.bool true,e.key,e.val],h.put r (some (.mapIter (some m) since (seen++[e.born]) c))))
def dG2(r:Nat)(h:Heap)(b:lW):Res:= .X
def EF(it:AV)(FH:Bool)(h:Heap):Res:=
 match it,FH with
 | .ptr r 0,true=>dG2 r h (h.get r)
 | .ptr r 0,false=>match h.get r with
   |some (.mapIter none _ _ _)=> .val (.V [.bool false]) h
   |some (.mapIter (some m) since seen last)=>match h.get m with
    |some (.map es c)=>
     bif Nat.ble h.wm r&& !(!seen.isEmpty&& !es.isEmpty&&es.all (λe=>Nat.ble last e.born))&& !((sL es seen).any (λe=>Nat.ble since e.born))then dG1 r m since seen c h (sL es seen)else .X
    |_=> .X
   |_=> .X
 |_,_=> .X
def Km:uq->mB
 | []=>none
 | [x]=>some x
 |_::r=>Km r
def MV(it:AV)(h:Heap):EX:=
 match it with
 | .ptr r 0=>match h.get r with
   |some (.mapIter (some m) _ seen stepped)=>match Km seen,h.get m with
    |some s,some (.map es c)=>bif Nat.beq c stepped then(Cb s es 0).map λx=> .V [x.2.key,x.2.val]else none
    |_,_=>none
   |_=>none
 |_=>none
def Pq(P:yJ)(asserted:zX)(ok:Bool):EX:=bif ok then(gu P asserted).map λz=> .V [z,.bool false]else none
def TW(ok:Bool)(v:AV):EX:=some (bif ok then .V [v,.bool true]else v)
def NM(P:yJ)(x:AV)(asserted:zX)(ok:Bool):EX:=
 match P.underlying asserted with
 |some (.interface _)=>none
 |some _=>match x with
  | .nili=>Pq P asserted ok
  | .iface t v=>bif Nat.beq t asserted then TW ok v else Pq P asserted ok
  |_=>none
 |none=>none
def ym:zw->Option zR
 | []=>some []
 | .int .u8 (.ofNat n)::r=>match ym r with
   |some l=>bif Nat.blt n 256 then some (UInt8.ofNat n::l)else none
   |none=>none
 |_=>none
def vU(P:yJ)(e:zX):Bool:=match P.underlying e with
 |some (.int .u8)=>true
 |_=>false
def d83(P:yJ)(e:zX)(l:zR)(h:Heap):aaq:=
 bif vU P e&&Nat.ble l.length room then some (.us h.next 0 l.length 1,h.new (.cells e 0 (l.map λb=> .int .u8 b.toNat)))else none
def d84(P:yJ)(e:zX)(x:AV)(h:Heap):Option zR:=bif vU P e then match x with
 | .N=>some []
 | .es _ _ _=>some []
 | .es0=>some []
 | .sl b o n c=>(rR 1 n (.sl b o n c) h).bind ym
 | .us b o n s=>(rR 1 n (.us b o n s) h).bind ym
 |_=>none
 else none
def Jl(P:yJ)(t b o:Nat)(h:Heap):aaq:=match dZ P t,h.get b with
 |some (_+1),some (.cells _ _ cs)=>bif Nat.blt o cs.length then some (.ptr b o,h)else none
 |_,_=>none
def IZ(P:yJ)(t b o:Nat)(h:Heap):aaq:=match o,dZ P t,h.get b with
 |0,some (n+1),some (.cells e _ cs)=>bif Nat.beq e t&&Nat.ble (n+1) cs.length&&fj P t then some (.ptr b 0,h)else none
 |_,_,_=>none
def HM(P:yJ)(s d:zX)(x:AV)(h:Heap):aaq:=match P.underlying s,P.underlying d,x with
 |some .string,some (.slice e),.str l=>d83 P e l h
 |_,_,_=>none
def Di(P:yJ)(s d:zX)(x:AV)(h:Heap):aaq:=
 match P.underlying s,P.underlying d,x with
 |some _,some (.int k),.int _ n=>some (.int k (nH k n),h)
 |some _,some .string,.str l=>some (.str l,h)
 |some (.slice e),some .string,x=>(d84 P e x h).map λl=>(.str l,h)
 |some (.pointer t),some .unsafePointer,.ptr b o=>Jl P t b o h
 |some .unsafePointer,some (.pointer t),.ptr b o=>IZ P t b o h
 |_,_,_=>none
def Bv(c:Nat):zR->Nat
 | []=>0
 |x::r=>bif Nat.beq x.toNat c then Bv c r+1 else Bv c r
def Bc(c:Nat):zR->Nat->mB
 | [],_=>none
 |x::r,i=>bif Nat.beq x.toNat c then some i else Bc c r (i+1)
def Nw(c:Nat)(l:zR):Int:=match Bc c l 0 with
 |some i=>(i:Int)
 |none=> -1
def Fg(P:yJ)(e:Ext)(args:zw)(h:Heap):aaq:=
 match e,args with
 | .mapsClone,[.iface t (.map r)]=>match h.get r with
   |some (.map es c)=>some (.iface t (.map h.next),h.new (.map es c))
   |some (.marr d ks vs l)=>some (.iface t (.map h.next),h.new (.marr d ks vs l))
   |_=>none
 | .ident,[x]=>some (x,h)
 | .count,[.str l,.int .u8 c]=>(kP c).bind λc=>bif Nat.blt c 256 then some (.int .i64 (Bv c l:Nat),h)else none
 | .indexByte,[.str l,.int .u8 c]=>(kP c).bind λc=>bif Nat.blt c 256 then some (.int .i64 (Nw c l),h)else none
 |_,_=>none
def FH:AV->Bool
 | .str _=>true
 |_=>false
def RZ(P:yJ)(t:aa5)(x:AV)(h:Heap):mB:=match t with
 |some .string=>match x with
  | .str l=>some l.length
  |_=>none
 |some (.slice _)=>bif FH x then none else gn x
 |some (.map _ _)=>match x with
  | .nilm=>some 0
  | .map r=>match h.get r with
    |some (.map es _)=>some es.length
    |_=>none
  |_=>none
 |_=>none
def CL(P:yJ)(elem:zX)(b o n:Nat)(h:Heap):aaq:=match n with
 |0=>some (.undef,h)
 |n=>match gu P elem with
  |some z=>bif Nat.blt 0 z.cells.length then(putCells h b o (dx n z.cells)).map λh'=>(.undef,h')else none
  |none=>none
def QF(P:yJ)(t:aa5)(x:AV)(h:Heap):aaq:=match t with
 |some (.slice elem)=>match x with
  | .N=>some (.undef,h)
  | .sl b o n _=>CL P elem b o n h
  | .us b o n _=>CL P elem b o n h
  |_=>none
 |some (.map _ _)=>match x with
  | .nilm=>some (.undef,h)
  | .map r=>match h.get r with
    |some (.map _ c)=>bif Nat.ble h.wm r then some (.undef,h.put r (some (.map [] c)))else none
    |_=>none
  |_=>none
 |_=>none
def gS(x:AV)(h:Heap):EX:=match x with
 | .N=>some (.int .i64 0)
 | .es0=>some (.int .i64 0)
 | .sl _ _ _ c=>some (.int .i64 c)
 | .us b o _ sz=>match h.get b with
   |some (.cells _ _ cs)=>bif Nat.blt 0 sz&&Nat.ble o cs.length then some (.atl ((cs.length-o)/sz))else none
   |_=>none
 |_=>none
def DJ(P:yJ)(b:Builtin)(argTypes:Array zX)(args:zw)(h:Heap):aaq:=
 match b,args with
 | .len,[x]=>(RZ P ((argTypes[0]?).bind P.underlying) x h).map λ(n:Nat)=>(AV.int .i64 (n:Int),h)
 | .append,[x,y]=>UW P argTypes x y h
 | .copy,[x,y]=>Ro P argTypes x y h
 | .clear,[x]=>QF P ((argTypes[0]?).bind P.underlying) x h
 | .delete,[m,k]=>match argTypes[0]? with
   |some t=>(Ui P t m k h).map λh'=>(.undef,h')
   |none=>none
 | .cap,[x]=>match(argTypes[0]?).bind P.underlying with
   |some (.slice _)=>(gS x h).map λv=>(v,h)
   |_=>none
 | .max,[.int k x,.int _ y]=>some (.int k (bif gQ x y then y else x),h)
 | .min,[.int k x,.int _ y]=>some (.int k (bif gQ y x then y else x),h)
 |_,_=>none
def Dj(x:AV):aaZ:=match x with
 | .sl b o _ _=>some (b,o)
 | .us b o _ _=>some (b,o)
 |_=>none
def UH(a b:aaZ)(h:Heap):Bool:=match a,b with
 |some p,some q=> !(Nat.beq p.1 q.1)&&(match h.get p.1,h.get q.1 with
  |some (.cells _ fz cs),some (.cells _ _ _)=>Nat.ble fz p.2&&Nat.blt p.2 cs.length
  |_,_=>false)
 |_,_=>false
def BM(t:zX)(P:yJ)(args:zw)(h:Heap):Res:=match args with
 | [x,y]=>match P.underlying t with
   |some (.slice e)=>match dZ P e with
    |some _=>bif UH (Dj x) (Dj y) h then .choice [(.bool false,h),(.bool true,h)]else .X
    |none=> .X
   |_=> .X
 |_=> .X
def Xw(P:yJ)(e:Ext)(args:zw)(h:Heap):Res:=match e with
 | .overlaps t _=>BM t P args h
 |e=>oh (Fg P e args h)
def IF(P:yJ)(e:Ext)(args:zw)(h:Heap):Res:= .X
def orY(r s:Res):Res:=match r with
 | .X=>s
 |r=>r
def BI(E:Env)(f:FuncId)(args:zw)(h:Heap):Res:=
 match E.P.funcs[f]? with
 |none=> .X
 |some fn=>match fn.body with
  |some _=> .enter f args
  |none=>match E.ext f with
   |some e=>orY (Xw E.P e args h) (IF E.P e args h)
   |none=> .X
def Kx(P:yJ)(t:zX)(name:String):Option FuncId:=
 match P.info? t with
 |some i=>match i.methods.find? (·.name==name)with
  |some m=>match m.path.toList with
   | []=>match m.func,P.underlying t with
     |some (f,true),some (.pointer _)=>some f
     |some (_,_),some (.pointer _)=>none
     |some (f,false),some _=>some f
     |_,_=>none
   |_=>none
  |none=>none
 |none=>none
def TJ(E:Env)(name:String)(first args:zw)(h:Heap):Res:= .X
def Kg(E:Env)(f:AV)(args:zw)(h:Heap):Res:=
 match f with
 | .func (.func f) first cap=>BI E f (first++args++cap) h
 | .func (.method name) first _=>TJ E name first args h
 | .yield l=> .yield l args
 |_=> .X
def JW(x:AV):EX:=
 match x with
 | .nilp| .nili| .nilf=>none
 | .opq _=>none
 | .any=>none
 | .func (.method _) _ _=>none
 |x=>some x
def Lu(E:Env)(x:EX)(k:FK)(vs:zw):EX:=match x with
 |some v=>some v
 |none=>E.fact k vs
def xQ(ρ:An->EX)(a b:An)(h:Heap)(c:EX):Res:=match c with
 |some (.bool t)=>ov (bif t then ρ a else ρ b) h
 |_=> .X
def wl(e:zX)(h:Heap)(v:EX):Res:=match v with
 |some z=>oh (DE e z h)
 |none=> .X
def Mc(P:yJ)(t:zX)(h:Heap)(ps:Option aav):Res:=match ps with
 |some ps=>ov (RI P t ps) h
 |none=> .X
def Ct(P:yJ)(t n:Nat)(h:Heap)(ps:Option aav):Res:=match ps with
 |some ps=>oh (AH P t n ps h)
 |none=> .X
def Tm(P:yJ)(t:zX)(h:Heap)(a:EX):Res:=match a with
 |some a=>ov (FY P t a h) h
 |none=> .X
def Rt(P:yJ)(t:zX)(h:Heap)(a v:EX):Res:=match a with
 |some a=>match v with
  |some v=>os (Fz P t a v h)
  |none=> .X
 |none=> .X
def JU(P:yJ)(h:Heap)(name:String)(first cap:zw):Res:=match first with
 | .iface t v::rest=>match Kx P t name with
   |some _=> .val (.func (.method name) (.iface t v::rest) cap) h
   |none=> .X
 |_=> .X
def BQ(P:yJ)(h:Heap)(a:EX):Res:=match a with
 |some (.func (.method name) first cap)=>JU P h name first cap
 |some a=>ov (JW a) h
 |none=> .X
def BP(E:Env)(op:BinOp)(t:zX)(x y:An)(h:Heap)(a b:EX):Res:=match a with
 |some a=>match b with
  |some b=>bif zT E.P op t x y a b then ov (Lu E (Qd E.P op t a b) (.bin op) [a,b]) h else .X
  |none=> .X
 |none=> .X
def UB(E:Env)(op:UnOp)(h:Heap)(a:EX):Res:=match a with
 |some a=>ov (Lu E (Nl op a) (.un op) [a]) h
 |none=> .X
def BU(E:Env)(s d:zX)(h:Heap)(a:EX):Res:=match a with
 |some a=>match Di E.P s d a h with
  |some r=> .val r.1 r.2
  |none=>match HM E.P s d a h with
   |some r=> .choice [r]
   |none=>ov (E.fact (.conv d) [a]) h
 |none=> .X
def CD(P:yJ)(t:zX)(h:Heap)(a:EX):Res:=match a with
 |some v=>match P.underlying t with
  |some (.interface _)=> .X
  |some _=> .val (.iface t v) h
  |none=> .X
 |none=> .X
def Da(fn:Fn)(h:Heap)(a b:Option zw):Res:=match a with
 |some a=>match b with
  |some b=>match fn with
   | .yield _=> .X
   |fn=> .val (.func fn a b) h
  |none=> .X
 |none=> .X
def sK(P:yJ)(t:zX)(h:Heap)(r:Option EX):Res:=match P.underlying t with
 |some (.map _ _)=>match r with
  |some none=> .val (.map h.next) (h.new (.map [] 0))
  |some (some (.int _ _))=> .val (.map h.next) (h.new (.map [] 0))
  |_=> .X
 |_=> .X
def Cu(P:yJ)(t:zX)(h:Heap)(l c:EX):Res:=match l with
 |some l=>match c with
  |some c=>oh (wO P t l c h)
  |none=> .X
 |none=> .X
def CM(E:Env)(t:zX)(h:Heap)(x:EX)(lo hi mx:Option EX):Res:=match x with
 |some x=>match lo with
  |some lo=>match hi with
   |some hi=>match mx with
    |some mx=>bif hi.isNone&&mx.isSome then .X else ov (Rl E.P t x lo hi mx h) h
    |none=> .X
   |none=> .X
  |none=> .X
 |none=> .X
def WY(P:yJ)(t:zX)(f:Nat)(h:Heap)(a:EX):Res:=match a with
 |some a=>ov (MK P t a f) h
 |none=> .X
def ba2(P:yJ)(t:zX)(f:Nat)(h:Heap)(a:EX):Res:=match a with
 |some a=>ov (Nu P t a f) h
 |none=> .X
def s2(F:AV->AV->EX)(h:Heap)(a b:EX):Res:=match a with
 |some a=>match b with
  |some b=>ov (F a b) h
  |none=> .X
 |none=> .X
def Hl(F:AV->AV->AV->aaX)(a b c:EX):Res:=match a with
 |some a=>match b with
  |some b=>match c with
   |some c=>os (F a b c)
   |none=> .X
  |none=> .X
 |none=> .X
def Ou(F:AV->AV->aaq)(a b:EX):Res:=match a with
 |some a=>match b with
  |some b=>oh (F a b)
  |none=> .X
 |none=> .X
def UD(F:AV->aaq)(a:EX):Res:=match a with
 |some a=>oh (F a)
 |none=> .X
def uA(F:AV->Res)(a:EX):Res:=match a with
 |some a=>F a
 |none=> .X
def s1(F:AV->EX)(h:Heap)(a:EX):Res:=match a with
 |some a=>ov (F a) h
 |none=> .X
def KT(i:Nat)(x:AV):EX:=match x with
 | .V vs=>vs[i]?
 |_=>none
def yi(E:Env)(b:Builtin)(ts:Array zX)(h:Heap)(args:zw):Res:=match DJ E.P b ts args h with
 |some r=> .val r.1 r.2
 |none=>match b with
  | .len=>ov (E.fact .len args) h
  | .max=>ov (E.fact .max args) h
  | .min=>ov (E.fact .min args) h
  |_=> .X
def vA(E:Env)(ρ:An->EX)(c:Call)(h:Heap)(args:Option zw):Res:=match args with
 |none=> .X
 |some args=>match c.callee with
  | .builtin b=>yi E b c.argTypes h args
  | .invoke rc name=>uA (λv=>TJ E name [v] args h) (ρ rc)
  | .value f=>uA (λf=>Kg E f args h) (ρ f)
def Uu(args:zw)(f:AV):Res:=match f with
 | .func (.func g) first cap=> .defer (.fn g cap (first++args))
 |_=> .X
def EO(ρ:An->EX)(c:Call)(args:Option zw):Res:=match args with
 |none=> .X
 |some args=>match c.callee with
  | .value f=>uA (Uu args) (ρ f)
  |_=> .X
def mS(E:Env)(ρ:An->EX)(o:Oper)(h:Heap):Res:=
 match o.op with
 | .move x=>ov (ρ x) h
 | .assign x=>ov (ρ x) h
 | .pick c a b=>xQ ρ a b h (ρ c)
 | .alloc e=>wl e h (gu E.P e)
 | .box e x=>wl e h (ρ x)
 | .build t ps=>Mc E.P t h (iH ρ ps.toList)
 | .buildSlice t n ps=>Ct E.P t n h (iH ρ ps.toList)
 | .load t a=>Tm E.P t h (ρ a)
 | .store t a x=>Rt E.P t h (ρ a) (ρ x)
 | .nilCheck x=>BQ E.P h (ρ x)
 | .binOp op t x y _=>BP E op t x y h (ρ x) (ρ y)
 | .unOp op _ x=>UB E op h (ρ x)
 | .convert s d x=>BU E s d h (ρ x)
 | .makeInterface t x=>CD E.P t h (ρ x)
 | .makeFunc fn first cap=>Da fn h (evs ρ first.toList) (evs ρ cap.toList)
 | .makeMap t r=>sK E.P t h (eD ρ r)
 | .makeSlice t l c=>Cu E.P t h (ρ l) (ρ c)
 | .slice t x lo hi mx=>CM E t h (ρ x) (eD ρ lo) (eD ρ hi) (eD ρ mx)
 | .fieldAddr s x f=>ba2 E.P s f h (ρ x)
 | .field t x f=>WY E.P t f h (ρ x)
 | .indexAddr t x i=>s2 (Tw E.P t) h (ρ x) (ρ i)
 | .index t x i=>s2 (Qo E.P t) h (ρ x) (ρ i)
 | .lookup t x i ok=>s2 (λa i=>MZ E.P t a i ok h) h (ρ x) (ρ i)
 | .mapUpdate t m k x=>Hl (λm k v=>BL E.P t m k v h) (ρ m) (ρ k) (ρ x)
 | .insert t m k x=>Hl (λm k v=>BL E.P t m k v h) (ρ m) (ρ k) (ρ x)
 | .mapEntry t m k=>Ou (λm k=>IK E.P t m k h) (ρ m) (ρ k)
 | .entryStore _ m s x=>Hl (λm s v=>LU m s v h) (ρ m) (ρ s) (ρ x)
 | .range t x=>UD (λa=>IP E.P t a h) (ρ x)
 | .next it s=>uA (λa=>EF a s h) (ρ it)
 | .entry it=>s1 (λa=>MV a h) h (ρ it)
 | .typeAssert x _ t ok=>s1 (λa=>NM E.P a t ok) h (ρ x)
 | .extract t i=>s1 (KT i) h (ρ t)
 | .call c=>vA E ρ c h (evs ρ c.args.toList)
 | .defer c=>EO ρ c (evs ρ c.args.toList)
 |_=> .X
def jm:AV->abf
 | .int k n=>some (k,.C n)
 | .Z k e=>some (k,e)
 |_=>none
def mu:AV->aaD
 | .str l=>some (.cs l)
 | .K e=>some e
 |_=>none
def lu:AV->aaD
 | .bool b=>some (.cb b)
 | .H e=>some e
 |_=>none
def LD(op:BinOp)(k k':IntKind)(a b:SX)(h:Heap):Res:=match op with
 | .shl=> .N (.O (.cmp .leq) [.C 0,b]) (.Z k (.O (.ar .shl k) [a,b])) h
 | .shr=> .N (.O (.cmp .leq) [.C 0,b]) (.Z k (.O (.ar .shr k) [a,b])) h
 | .quo=>if k=k' then .N (.O (.cmp .neq) [b,.C 0]) (.Z k (.O (.ar .quo k) [a,b])) h else .X
 | .rem=>if k=k' then .N (.O (.cmp .neq) [b,.C 0]) (.Z k (.O (.ar .rem k) [a,b])) h else .X
 | .add| .sub| .mul| .and| .or| .xor| .andNot=>if k=k' then .val (.Z k (.O (.ar op k) [a,b])) h else .X
 | .eql| .neq| .lss| .leq| .gtr| .geq=>if k=k' then .val (.H (.O (.cmp op) [a,b])) h else .X
def uR:Int:=4294967296
def fI(a b:SX):SX:= .O .iadd [a,b]
def It(op:BinOp)(a b:SX)(h:Heap):Res:=match op with
 | .eql| .neq| .lss| .leq| .gtr| .geq=> .val (.H (.O (.scmp op) [a,b])) h
 | .add=> .N (.O (.cmp .lss) [fI (.O .slen [a]) (.O .slen [b]),.C uR]) (.K (.O .cat [a,b])) h
 |_=> .X
def Cm(P:yJ)(t:zX):Bool:=match P.underlying t with
 |some .bool=>true
 |_=>false
def Uy(P:yJ)(op:BinOp)(t:zX)(a b:SX)(h:Heap):Res:=match op with
 | .eql=>bif Cm P t then .val (.H (.O .beq [a,b])) h else .X
 | .neq=>bif Cm P t then .val (.H (.O .not [.O .beq [a,b]])) h else .X
 |_=> .X
def gL(a b:SX):SX:=match a with
 | .cb true=>b
 |_=>match b with
  | .cb true=>a
  |_=> .O .and [a,b]
def AR(P:yJ)(ih:zX->AV->AV->aaD)(xs ys:zw):abc->aaD
 | []=>some (.cb true)
 |f::r=>bif f.name== "_" then AR P ih xs ys r else match jK P f.type xs f.offset,jK P f.type ys f.offset with
  |some a,some b=>match ih f.type a b with
   |some e=>match AR P ih xs ys r with
    |some e'=>some (gL e e')
    |none=>none
   |none=>none
  |_,_=>none
def YE(k k':IntKind)(a b:SX):aaD:=if k=k' then some (.O (.cmp .eql) [a,b])else none
def Ve(P:yJ)(ih:zX->AV->AV->aaD)(t:zX)(x y:AV):aaD:=
 match P.underlying t with
 |some .bool=>match lu x,lu y with
  |some a,some b=>some (.O .beq [a,b])
  |_,_=>none
 |some (.int _)=>match jm x,jm y with
  |some (k,a),some (k',b)=>YE k k' a b
  |_,_=>none
 |some .string=>match mu x,mu y with
  |some a,some b=>some (.O (.scmp .eql) [a,b])
  |_,_=>none
 |some (.struct fields)=>match x,y with
  | .agg xs,.agg ys=>bif P.stoodInHeld t then none else AR P ih xs ys fields.toList
  |_,_=>none
 |_=>none
def e16(_:zX)(_ _:AV):aaD:=none
def Eu(P:yJ)(n:Nat):zX->AV->AV->aaD:=Nat.rec (motive:=λ_=>zX->AV->AV->aaD) e16 (λ_=>Ve P) n
def xV(P:yJ)(t:zX):Bool:=match P.underlying t with
 |some (.slice _)=>true
 |_=>false
def Hp(P:yJ)(op:BinOp)(t:zX)(len:SX)(y:AV)(h:Heap):Res:=match y with
 | .N=>bif xV P t then(match op with
   | .eql=> .cho (.O (.cmp .lss) [.C 0,len]) (.bool false) [.bool true,.bool false] h
   | .neq=> .cho (.O (.cmp .lss) [.C 0,len]) (.bool true) [.bool true,.bool false] h
   |_=> .X)else .X
 |_=> .X
def JM(P:yJ)(op:BinOp)(t:zX)(x y:AV)(h:Heap):Res:=match x with
 | .agg cs=>match Eu P 10000 t (.agg cs) y with
   |some e=>match op with
    | .eql=> .val (.H e) h
    | .neq=> .val (.H (.O .not [e])) h
    |_=> .X
   |none=> .X
 | .osl _ _ len _=>Hp P op t len y h
 | .U _ len _=>Hp P op t len y h
 |_=> .X
def Qq(P:yJ)(op:BinOp)(t:zX)(x y:AV)(h:Heap):Res:=
 match jm x,jm y with
 |some (k,a),some (k',b)=>LD op k k' a b h
 |_,_=>match mu x,mu y with
  |some a,some b=>It op a b h
  |_,_=>match lu x,lu y with
   |some a,some b=>Uy P op t a b h
   |_,_=>JM P op t x y h
def Mh(P:yJ)(op:BinOp)(t:zX)(x y:An)(h:Heap)(a b:EX):Res:=match a with
 |some a=>match b with
  |some b=>bif zT P op t x y a b then Qq P op t a b h else .X
  |none=> .X
 |none=> .X
def Na(op:UnOp)(h:Heap)(a:EX):Res:=match a with
 |some (.H e)=>match op with
  | .not=> .val (.H (.O .not [e])) h
  |_=> .X
 |some (.Z k e)=>match op with
  | .neg=> .val (.Z k (.O (.un .neg k) [e])) h
  | .xor=> .val (.Z k (.O (.un .xor k) [e])) h
  |_=> .X
 |_=> .X
def IN(e x y:SX):SX:=match x,y with
 | .cb true,.cb false=>e
 | .cb false,.cb true=> .O .not [e]
 |x,y=> .O .J [e,x,y]
def QP(h:Heap)(e:SX)(a b:EX):Res:=match a.bind lu,b.bind lu with
 |some x,some y=> .val (.H (IN e x y)) h
 |_,_=> .X
def Rx(h:Heap)(e:SX)(a b:EX):Res:=match a,b with
 |some (.V []),some y=> .N (.O .not [e]) y h
 |some x,some (.V [])=> .N e x h
 |a,b=>QP h e a b
def IV(h:Heap)(c a b:EX):Res:=match c with
 |some (.H e)=>Rx h e a b
 |_=> .X
def wg(c:CT)(e:SX):AV:=match c with
 | .int k=> .Z k e
 | .str=> .K e
 | .bool=> .H e
def Fi(sig:wD)(l idx:SX):Nat->Nat->zw
 |_,0=>[]
 |j,n+1=>wg (sig.getD j .bool) (.O .G [l,idx,.C j])::Fi sig l idx (j+1) n
def EP(c:CT)(v:AV):aaD:=match c with
 | .int k=>match jm v with
   |some (k',e)=>if k=k' then some e else none
   |none=>none
 | .str=>mu v
 | .bool=>lu v
def gy:wD->zw->Option GF
 | [],[]=>some []
 |c::cs,v::vs=>match EP c v,gy cs vs with
  |some e,some es=>some (e::es)
  |_,_=>none
 |_,_=>none
def tH(idx len:SX):SX:= .O .and [.O (.cmp .leq) [.C 0,idx],.O (.cmp .lss) [idx,len]]
def KX(a b:SX):SX:=match a with
 | .C 0=>b
 |a=> .O .iadd [a,b]
def Tl(a b:SX):SX:=match a with
 | .O (.cmp .leq) [.C 0,.C 0]=>b
 |a=> .O .and [a,b]
def JP(P:yJ)(t:zX)(h:Heap)(x i:EX):Res:=match P.underlying t with
 |some (.slice elem)=>match dZ P elem with
  |some s=>match i.bind jm with
   |some (_,i)=>match x with
    |some (.osl b off len sz)=>bif Nat.beq s sz then .N (Tl (.O (.cmp .leq) [.C 0,off]) (tH i len)) (.optr b (KX off i) 0 sz) h else .X
    |some (.U b len sz)=>bif Nat.beq s sz then .N (tH i len) (.optr b i 0 sz) h else .X
    |some (.sl b 0 n _)=> .N (tH i (.C n)) (.optr b i 0 s) h
    |_=> .X
   |none=> .X
  |none=> .X
 |_=> .X
def MH(P:yJ)(s:zX)(f:Nat)(h:Heap)(a:EX):Res:=match P.underlying s,a with
 |some (.struct fields),some (.optr b idx j sz)=>match fields[f]? with
  |some f=>match dZ P f.type with
   |some (_+1)=> .val (.optr b idx (j+f.offset) sz) h
   |_=> .X
  |none=> .X
 |_,_=> .X
def Pw(P:yJ)(t:zX)(h:Heap)(x i:EX):Res:= .X
def oO(k:IntKind)(e:SX):AV:=match e with
 | .C n=> .int k n
 |e=> .Z k e
def Jz(P:yJ)(t:aa5)(h:Heap)(x:AV):Res:=match t with
 |some .string=>match x with
  | .K e=> .val (.Z .i64 (.O .slen [e])) h
  |_=> .X
 |some (.slice _)=>match x with
  | .osl _ _ len _=> .N (.O (.cmp .leq) [.C 0,len]) (oO .i64 len) h
  | .U _ len _=> .N (.O (.cmp .leq) [.C 0,len]) (oO .i64 len) h
  |_=> .X
 |_=> .X
def NT(b:Builtin)(x y:AV)(h:Heap):Res:=match jm x,jm y with
 |some (k,a),some (_,c)=>match b with
  | .max=> .val (.Z k (.O .imax [a,c])) h
  | .min=> .val (.Z k (.O .imin [a,c])) h
  |_=> .X
 |_,_=> .X
def ei2:AV->Option CT
 | .int k _=>some (.int k)
 | .Z k _=>some (.int k)
 | .str _=>some .str
 | .K _=>some .str
 | .bool _=>some .bool
 | .H _=>some .bool
 |_=>none
def tN:zw->Option wD
 | []=>some []
 |a::r=>match ei2 a,tN r with
  |some c,some cs=>some (c::cs)
  |_,_=>none
def lE(sig:wD)(sz:Nat):Nat->zw->Option GF
 |0,_=>some []
 |n+1,cs=>match gy sig (cs.take sz),lE sig sz n (cs.drop sz)with
  |some e,some r=>some (.O .row e::r)
  |_,_=>none
def d88(sz:Nat)(cs:zw):Option (wD×GF):=match tN (cs.take sz)with
 |some sig=>bif Nat.beq cs.length (Nat.mul (Nat.div cs.length sz) sz)then(match lE sig sz (Nat.div cs.length sz) cs with
  |some rs=>some (sig,rs)
  |none=>none)else none
 |none=>none
def GZ(P:yJ)(t:zX)(sig:wD)(l idx:SX)(j sz:Nat)(h:Heap):Res:=match FX P t,dZ P t with
 |some true,some n=>bif Nat.beq sig.length sz&&Nat.ble (j+n) sz then .N (tH idx (.O .Y [l])) (.agg (Fi sig l idx j n)) h else .X
 |some false,some _=>bif Nat.beq sig.length sz&&Nat.blt j sz then .N (tH idx (.O .Y [l])) (wg (sig.getD j .bool) (.O .G [l,idx,.C j])) h else .X
 |_,_=> .X
def ME(P:yJ)(t:zX)(h:Heap)(a:EX):Res:=match a with
 |some (.optr b idx j sz)=>match h.get b with
  |some (.A _ sig l)=>GZ P t sig l idx j sz h
  |some (.cells _ _ cs)=>(match d88 sz cs with
   |some (sig,rs)=>GZ P t sig (.O .row rs) idx j sz h
   |none=> .X)
  |some (.vec cs)=>match FX P t,idx with
   |some false,.C (.ofNat k)=>bif Nat.beq sz 1&&Nat.beq j 0 then(match cs[k]? with
    |some a=> .val a h
    |none=> .X)else .X
   |_,_=> .X
  |_=> .X
 |_=> .X
def dj5(off len l:SX):SX:= .O .and [.O .and [.O (.cmp .leq) [.C 0,off],.O (.cmp .leq) [.C 0,len]],.O .and [.O (.cmp .leq) [.O .iadd [off,len],.O .Y [l]],.O .bok [.O .lsub [l,off,.O .iadd [off,len]]]]]
def cP5(off len:SX)(sz:Nat)(x:lW)(h:Heap):Res:=match x with
 |some (.A _ [.int .u8] l)=>bif Nat.beq sz 1 then .N (dj5 off len l) (.K (.O .bstr [.O .lsub [l,off,.O .iadd [off,len]]])) h else .X
 |_=> .X
def cP6(o n:Nat)(x:lW)(h:Heap):Res:= .X
def cj6(a:EX)(h:Heap):Res:= .X
def Za(e:zX)(a:EX)(h:Heap):Res:= .X
def JN(P:yJ)(s d:zX)(h:Heap)(a:EX):Res:=match P.underlying s,P.underlying d with
 |some _,some (.int k)=>match a with
  |some (.Z _ e)=> .val (.Z k (.O (.conv k) [e])) h
  |_=> .X
 |some (.slice e),some .string=>bif vU P e then cj6 a h else .X
 |some .string,some (.slice e)=>bif vU P e then Za e a h else .X
 |some _,some .string=>match a with
  |some (.K e)=> .val (.K e) h
  |_=> .X
 |_,_=> .X
def fp:wD->wD->Bool
 | [],[]=>true
 |a::x,b::y=>decide (a=b)&&fp x y
 |_,_=>false
def NJ(a b:SX):SX:=bif SX.beq a b then .cb true else .O (.cmp .eql) [a,b]
def ec5:SX->Bool
 | .Q _ _=>true
 |_=>false
def VB(sz:Nat)(y:AV)(h:Heap):Option (wD×SX×SX):=match y with
 | .U b len s=>match h.get b with
   |some (.A _ sig l)=>bif Nat.beq s sz&&Nat.beq sig.length sz then(bif ec5 len then some (sig,.O .and [.O (.cmp .leq) [.C 0,len],.O (.cmp .leq) [len,.O .Y [l]]],.O .lsub [l,.C 0,len])else some (sig,NJ len (.O .Y [l]),l))else none
   |_=>none
 | .osl b off len s=>match h.get b with
   |some (.A _ sig l)=>bif Nat.beq s sz&&Nat.beq sig.length sz then bif SX.beq off (.C 0)&&SX.beq len (.O .Y [l])then some (sig,.cb true,l)else some (sig,.O .and [.O (.cmp .leq) [.C 0,off],.O .and [.O (.cmp .leq) [.C 0,len],.O (.cmp .leq) [.O .iadd [off,len],.O .Y [l]]]],.O .lsub [l,off,.O .iadd [off,len]])else none
   |_=>none
 | .sl b o n _=>match h.get b with
   |some (.cells _ _ cs)=>bif Nat.ble (o+n*sz) cs.length&&Nat.blt 0 n then(match tN ((cs.drop o).take sz)with
    |some sig=>match lE sig sz n ((cs.drop o).take (n*sz))with
     |some rs=>some (sig,.cb true,.O .row rs)
     |none=>none
    |none=>none)else none
   |_=>none
 | .us b o n s=>match h.get b with
   |some (.cells _ _ cs)=>bif Nat.ble (o+n*sz) cs.length&&Nat.blt 0 n&&Nat.beq s sz then(match tN ((cs.drop o).take sz)with
    |some sig=>match lE sig sz n ((cs.drop o).take (n*sz))with
     |some rs=>some (sig,.cb true,.O .row rs)
     |none=>none
    |none=>none)else none
   |_=>none
 |_=>none
def Yj(sz:Nat)(y:AV):Option (wD×SX×SX):=bif Nat.beq sz 1 then(match mu y with
 |some e=>some ([.int .u8],.cb true,.O .sbytes [e])
 |none=>none)else none
def oE:Int:=1000000
def d90(z:zw)(y:AV):Option (wD×SX×SX):=match jm y,tN z with
 |some (_,e),some sig=>(match gy sig z with
  |some es=>some (sig,.O .and [.O (.cmp .leq) [.C 0,e],.O (.cmp .leq) [e,.C oE]],.O .lrep [e,.O .row es])
  |none=>none)
 |_,_=>none
def Sx(P:yJ)(yt sz:Nat)(z:zw)(y:AV)(h:Heap):Option (wD×SX×SX):=match P.underlying yt with
 |some (.slice _)=>VB sz y h
 |some .string=>Yj sz y
 |some (.int _)=>d90 z y
 |_=>none
def Wi(elem s:Nat)(sig:wD)(x:AV)(h:Heap):aaq:=match x with
 | .sl b o n c=>match h.get b with
   |some (.cells e fz cs)=>bif Nat.beq e elem&&Nat.ble h.wm b&&Nat.ble fz o&&Nat.ble (o+c*s) cs.length&&Nat.ble n c&&Nat.beq sig.length s&&Nat.blt h.next 65536 then(match lE sig s n ((cs.drop o).take (n*s))with
    |some rs=>some (.U h.next (.O .Y [.O .row rs]) s,(h.put b none).new (.A elem sig (.O .row rs)))
    |none=>none)else none
   |_=>none
 | .us b o n s'=>match h.get b with
   |some (.cells e fz cs)=>bif Nat.beq e elem&&Nat.ble h.wm b&&Nat.ble fz o&&Nat.ble (o+n*s) cs.length&&Nat.beq s' s&&Nat.beq sig.length s&&Nat.blt h.next 65536&&Nat.blt 0 s then(match lE sig s n ((cs.drop o).take (n*s))with
    |some rs=>some (.U h.next (.O .Y [.O .row rs]) s,(h.put b none).new (.A elem sig (.O .row rs)))
    |none=>none)else none
   |_=>none
 | .U b (.C 0) s'=>match h.get b with
   |some (.A e sg _)=>bif Nat.beq e elem&&Nat.ble h.wm b&&fp sg sig&&Nat.beq s' s&&Nat.beq sig.length s&&Nat.blt h.next 65536 then some (.U h.next (.O .Y [.O .row []]) s,(h.put b none).new (.A elem sig (.O .row [])))else none
   |_=>none
 |_=>none
def qg(l y:SX):SX:=match l with
 | .O .row []=>y
 |l=> .O .lcat [l,y]
def HK(elem s:Nat)(sig:wD)(nd ly:SX)(x:AV)(h:Heap):Res:=match x with
 | .N=>bif !(Nat.blt h.next 65536)then .X else .N (gL nd (.O (.cmp .leq) [.O .Y [ly],.C oE])) (.U h.next (.O .Y [ly]) s) (h.new (.A elem sig ly))
 | .U b len sz=>match h.get b with
   |some (.A e sig' l)=>bif Nat.beq sz s&&Nat.beq e elem&&fp sig' sig&&Nat.ble h.wm b&&Nat.blt h.next 65536&& !(Nat.beq e iU)then
    .N (gL nd (gL (NJ len (.O .Y [l])) (.O (.cmp .leq) [.O .Y [qg l ly],.C oE]))) (.U h.next (.O .Y [qg l ly]) s) ((h.put b none).new (.A elem sig (qg l ly)))else .X
   |_=> .X
 |_=> .X
def ZV(elem s:Nat)(sig:wD)(nd ly:SX)(x:AV)(h:Heap)(p:aaq):Res:=match p with
 |some p=>HK elem s sig nd ly p.1 p.2
 |none=>HK elem s sig nd ly x h
def Sc(P:yJ)(ts:Array zX)(x y:AV)(h:Heap):Res:=match(ts[0]?).bind P.underlying,ts[1]? with
 |some (.slice elem),some yt=>match P.info? elem,gu P elem with
  |some i,some z=>match Sx P yt i.size z.cells y h with
   |some (sig,nd,ly)=>bif Nat.blt 0 i.size&&Nat.beq z.cells.length i.size&&Nat.ble i.bytes 1000&&Nat.beq ts.size 2&&Nat.beq sig.length i.size&& !(fj P elem)then ZV elem i.size sig nd ly x h (Wi elem i.size sig x h)else .X
   |none=> .X
  |_,_=> .X
 |_,_=> .X
def cP8(x:AV)(h:Heap):Res:= .X
def dj7(P:yJ)(ts:Array zX)(x y:AV)(h:Heap):Res:= .X
def JT(P:yJ)(b:Nat)(off len:SX)(sz:Nat)(z:zw)(x:lW)(h:Heap):Res:=match x with
 |some (.A e sig l)=>(match gy sig z with
  |some es=>bif Nat.beq sig.length sz&&Nat.blt 0 sz&&Nat.ble h.wm b&& !(Nat.beq e iU)&& !(fj P e)then
   .N (.O .and [.O .and [.O (.cmp .leq) [.C 0,off],.O (.cmp .leq) [.C 0,len]],.O .and [.O (.cmp .leq) [len,.C oE],.O (.cmp .leq) [.O .iadd [off,len],.O .Y [l]]]]) .undef (h.put b (some (.A e sig (.O .lcat [.O .lsub [l,.C 0,off],.O .lcat [.O .lrep [len,.O .row es],.O .lsub [l,.O .iadd [off,len],.O .Y [l]]]]))))else .X
  |none=> .X)
 |_=> .X
def SN(P:yJ)(t:aa5)(x:AV)(h:Heap):Res:=match t with
 |some (.slice elem)=>(match gu P elem with
  |some z=>bif fj P elem then .X else(match x with
   | .osl b off len sz=>JT P b off len sz z.cells (h.get b) h
   | .U b len sz=>JT P b (.C 0) len sz z.cells (h.get b) h
   |_=> .X)
  |none=> .X)
 |_=> .X
def e19(P:yJ)(ts:Array zX)(x y:AV)(h:Heap):Res:= .X
def gz(l idx:SX):Nat->Nat->GF
 |_,0=>[]
 |j,n+1=> .O .G [l,idx,.C j]::gz l idx (j+1) n
def Lx:wD->Nat->Nat->SX
 | [],_,_=> .cb true
 |c::r,i,j=>gL (match c with
  | .int _=> .O (.cmp .eql) [.V i,.V j]
  | .str=> .O (.scmp .eql) [.V i,.V j]
  | .bool=> .O .beq [.V i,.V j]) (Lx r (i+1) (j+1))
def rV:wD->Nat->zw
 | [],_=>[]
 |c::r,i=>wg c (.V i)::rV r (i+1)
def qZ(P:yJ)(kt:zX)(ks:wD):Bool:=qc P kt (.agg (rV ks 0))&&(match Eu P 10000 kt (.agg (rV ks 0)) (.agg (rV ks ks.length))with
 |some e=>SX.beq e (Lx ks 0 ks.length)
 |none=>false)
def ei3:AV->Bool
 | .agg _=>true
 |_=>false
def jB(ks:wD)(l:SX)(es:GF):SX:= .O (.mfind ks) [l,.O .row es]
def ff(ks:wD)(l:SX)(es:GF):SX:= .O (.cmp .lss) [jB ks l es,.O .Y [l]]
def jM(ks:wD)(l:SX)(es:GF):wD->Nat->GF->zw
 |c::cs,j,z::zs=>wg c (.O .J [ff ks l es,.O .G [l,jB ks l es,.C j],z])::jM ks l es cs (j+1) zs
 |_,_,_=>[]
def jo:zw->AV
 | [v]=>v
 |vs=> .agg vs
def oW(vs:wD)(z:AV):Bool:=match vs with
 | []=>false
 | [_]=>z.one
 |_=>ei3 z
def Br(ks:wD)(es zs:GF)(l:SX):SX:=match l with
 | .O .J [c,l0,.O .lcat [l1,.O .row [.O .row ez]]]=>bif SX.beq c (ff ks l0 es)&&SX.beq l1 l0&&SX.beqs ez (es++zs)then l0 else l
 |l=>l
def VW(P:yJ)(kt et:zX)(h:Heap)(b:lW)(cs:zw)(ok:Bool):Res:=match b,gu P et with
 |some (.marr _ ks vs l),some z=>match gy ks cs,gy vs z.cells with
  |some es,some zs=>bif qZ P kt ks&&Nat.ble 2 ks.length&&oW vs z then .val (bif ok then .V [jo (jM ks l es vs ks.length zs),.H (ff ks l es)]else jo (jM ks (Br ks es zs l) es vs ks.length zs)) h else .X
  |_,_=> .X
 |_,_=> .X
def MF(P:yJ)(t:zX)(h:Heap)(m k:EX)(ok:Bool):Res:=match P.underlying t with
 |some (.map kt et)=>match m with
  |some (.map r)=>match k with
   |some (.agg cs)=>VW P kt et h (h.get r) cs ok
   |_=> .X
  |_=> .X
 |_=> .X
def Fw(ks:wD)(l:SX)(es xs:GF):SX:= .O .J [ff ks l es,.O .lset [l,jB ks l es,.O .row (es++xs)],.O .lcat [l,.O .row [.O .row (es++xs)]]]
def ck2(P:yJ)(kt:zX)(h:Heap)(r:Nat)(b:lW)(ks vs:wD)(z:AV)(cs:zw)(x:AV):Res:=match gy ks cs,gy vs x.cells with
 |some es,some xs=>bif qZ P kt ks&&Nat.ble 2 ks.length&&oW vs x&&Nat.ble h.wm r then(match b with
  |some (.marr d ks' vs' l)=>bif fp ks' ks&&fp vs' vs then .val .undef (h.put r (some (.marr d ks vs (Fw ks l es xs))))else .X
  |some (.map [] c)=> .val .undef (h.put r (some (.marr (Nat.beq c 0) ks vs (.O .row [.O .row (es++xs)]))))
  |_=> .X)else .X
 |_,_=> .X
def Ji(P:yJ)(t:zX)(h:Heap)(m k x:EX):Res:=match P.underlying t with
 |some (.map kt et)=>match m with
  |some (.map r)=>match k with
   |some (.agg cs)=>match x with
    |some x=>match gu P kt,gu P et with
     |some zk,some z=>match tN zk.cells,tN z.cells with
      |some ks,some vs=>ck2 P kt h r (h.get r) ks vs z cs x
      |_,_=> .X
     |_,_=> .X
    |none=> .X
   |_=> .X
  |_=> .X
 |_=> .X
def Fe(ks:wD)(l:SX)(es zs:GF):SX:= .O .J [ff ks l es,l,.O .lcat [l,.O .row [.O .row (es++zs)]]]
def WJ(P:yJ)(kt:zX)(h:Heap)(r:Nat)(b:lW)(ks vs:wD)(z:AV)(cs:zw):Res:=match gy ks cs,gy vs z.cells with
 |some es,some zs=>bif qZ P kt ks&&Nat.ble 2 ks.length&&oW vs z&&Nat.ble h.wm r then(match b with
  |some (.marr true ks' vs' l)=>bif fp ks' ks&&fp vs' vs then .val (.V [jo (jM ks l es vs ks.length zs),.Z .i64 (jB ks l es)]) (h.put r (some (.marr true ks vs (Fe ks l es zs))))else .X
  |some (.map [] 0)=> .val (.V [z,.Z .i64 (.C 0)]) (h.put r (some (.marr true ks vs (.O .row [.O .row (es++zs)]))))
  |_=> .X)else .X
 |_,_=> .X
def Sk(P:yJ)(t:zX)(h:Heap)(m k:EX):Res:=match P.underlying t with
 |some (.map kt et)=>match m with
  |some (.map r)=>match k with
   |some (.agg cs)=>match gu P kt,gu P et with
    |some zk,some z=>match tN zk.cells,tN z.cells with
     |some ks,some vs=>WJ P kt h r (h.get r) ks vs z cs
     |_,_=> .X
    |_,_=> .X
   |_=> .X
  |_=> .X
 |_=> .X
def ck4(h:Heap)(r:Nat)(b:lW)(e:aaD)(x:AV):Res:=match b,e with
 |some (.marr true ks vs l),some e=>match gy vs x.cells with
  |some xs=>bif oW vs x&&Nat.ble h.wm r then .N (tH e (.O .Y [l])) .undef (h.put r (some (.marr true ks vs (.O .lset [l,e,.O .row (gz l e 0 ks.length++xs)]))))else .X
  |none=> .X
 |_,_=> .X
def QY:AV->aaD
 | .Z .i64 e=>some e
 | .int .i64 n=>some (.C n)
 |_=>none
def Qa(h:Heap)(m s x:EX):Res:=match m,s,x with
 |some (.map r),some s,some x=>ck4 h r (h.get r) (QY s) x
 |_,_,_=> .X
def dG9(P:yJ)(kt:zX)(h:Heap)(r:Nat)(b:lW)(cs:zw):Res:=match b with
 |some (.marr _ ks vs l)=>match gy ks cs with
  |some es=>bif qZ P kt ks&&Nat.ble 2 ks.length&&Nat.ble h.wm r then .N (.cb true) .undef (h.put r (some (.marr false ks vs (.O (.mdel ks) [l,.O .row es]))))else .X
  |none=> .X
 |_=> .X
def Ue(P:yJ)(u:aa5)(h:Heap)(m k:AV):Res:=match u with
 |some (.map kt _)=>match m with
  | .map r=>match k with
    | .agg cs=>dG9 P kt h r (h.get r) cs
    |_=> .X
  |_=> .X
 |_=> .X
def NL(P:yJ)(b:Builtin)(ts:Array zX)(h:Heap)(args:Option zw):Res:=match args with
 |some [x]=>match b with
  | .len=>Jz P ((ts[0]?).bind P.underlying) h x
  | .unsafeSliceData=>cP8 x h
  | .clear=>SN P ((ts[0]?).bind P.underlying) x h
  |_=> .X
 |some [x,y]=>match b with
  | .append=>Sc P ts x y h
  | .unsafeString=>dj7 P ts x y h
  | .copy=>e19 P ts x y h
  | .delete=>Ue P ((ts[0]?).bind P.underlying) h x y
  |_=>NT b x y h
 |_=> .X
def Iu(P:yJ)(ρ:An->EX)(c:Call)(h:Heap):Res:=match c.callee with
 | .builtin b=>NL P b c.argTypes h (evs ρ c.args.toList)
 |_=> .X
def ck6(e:Nat)(sig:wD)(l idx:SX)(b j n:Nat)(h:Heap)(es:Option GF):Res:=match es with
 |some es=> .N (tH idx (.O .Y [l])) .undef (h.put b (some (.A e sig (.O .lset [l,idx,.O .row (gz l idx 0 j++(es++gz l idx (j+n) (sig.length-(j+n))))]))))
 |none=> .X
def ck7(P:yJ)(b:Nat)(idx:SX)(j sz n:Nat)(v:AV)(h:Heap)(x:lW):Res:=match x with
 |some (.A e sig l)=>bif Nat.beq sig.length sz&&Nat.ble (j+n) sz&&v.nt&&Nat.beq v.cells.length n&&Nat.ble h.wm b&&Nat.blt 0 n&& !(fj P e)&& !(Nat.beq e iU)then ck6 e sig l idx b j n h (gy ((sig.drop j).take n) v.cells)else .X
 |_=> .X
def PK(P:yJ)(t:zX)(h:Heap)(a v:EX):Res:=match a,v,dZ P t with
 |some (.optr b idx j sz),some v,some n=>ck7 P b idx j sz n v h (h.get b)
 |_,_,_=> .X
def vQ(x:Option EX)(d:SX):aaD:=match x with
 |some none=>some d
 |some (some v)=>(jm v).map (·.2)
 |none=>none
def HI(lo hi n:SX):SX:=gL (bif SX.beq lo (.C 0)then .cb true else .O (.cmp .leq) [.C 0,lo]) (gL (.O (.cmp .leq) [lo,hi]) (bif SX.beq hi n then .cb true else .O (.cmp .leq) [hi,n]))
def zO(a b:SX):SX:=match b with
 | .C 0=>a
 |b=> .O .isub [a,b]
def RX(s:SX)(h:Heap)(lo hi:aaD):Res:=match lo,hi with
 |some lo,some hi=> .N (HI lo hi (.O .slen [s])) (.K (.O .ssub [s,lo,hi])) h
 |_,_=> .X
def TZ(b:Nat)(off len:SX)(sz:Nat)(h:Heap)(lo hi:aaD):Res:=match lo,hi with
 |some lo,some hi=> .N (gL (bif SX.beq off (.C 0)then .cb true else .O (.cmp .leq) [.C 0,off]) (HI lo hi len)) (.osl b (KX off lo) (zO hi lo) sz) h
 |_,_=> .X
def OH(b:Nat)(len:SX)(sz:Nat)(h:Heap)(lo hi:aaD):Res:=match lo,hi with
 |some lo,some hi=>bif SX.beq lo (.C 0)then .N (HI (.C 0) hi len) (.U b hi sz) h else .N (HI lo hi len) (.osl b lo (zO hi lo) sz) h
 |_,_=> .X
def Nm(P:yJ)(t:zX)(h:Heap)(x:EX)(lo hi mx:Option EX):Res:=match x,mx with
 |some x,some none=>(match P.underlying t with
  |some .string=>(match mu x with
   |some s=>RX s h (vQ lo (.C 0)) (vQ hi (.O .slen [s]))
   |none=> .X)
  |some (.slice elem)=>(match dZ P elem,x with
   |some s,.osl b off len sz=>bif Nat.beq s sz then TZ b off len sz h (vQ lo (.C 0)) (vQ hi len)else .X
   |some s,.U b len sz=>bif Nat.beq s sz then OH b len sz h (vQ lo (.C 0)) (vQ hi len)else .X
   |_,_=> .X)
  |_=> .X)
 |_,_=> .X
def pW(E:Env)(ρ:An->EX)(o:Oper)(h:Heap):Res:=
 match o.op with
 | .binOp op t x y _=>Mh E.P op t x y h (ρ x) (ρ y)
 | .unOp op _ x=>Na op h (ρ x)
 | .convert s d x=>JN E.P s d h (ρ x)
 | .pick c a b=>IV h (ρ c) (ρ a) (ρ b)
 | .load t a=>ME E.P t h (ρ a)
 | .indexAddr t x i=>JP E.P t h (ρ x) (ρ i)
 | .fieldAddr s x f=>MH E.P s f h (ρ x)
 | .index t x i=>Pw E.P t h (ρ x) (ρ i)
 | .store t a x=>PK E.P t h (ρ a) (ρ x)
 | .slice t x lo hi mx=>Nm E.P t h (ρ x) (eD ρ lo) (eD ρ hi) (eD ρ mx)
 | .lookup t m k ok=>MF E.P t h (ρ m) (ρ k) ok
 | .mapUpdate t m k x=>Ji E.P t h (ρ m) (ρ k) (ρ x)
 | .insert t m k x=>Ji E.P t h (ρ m) (ρ k) (ρ x)
 | .mapEntry t m k=>Sk E.P t h (ρ m) (ρ k)
 | .entryStore _ m s x=>Qa h (ρ m) (ρ s) (ρ x)
 | .call c=>Iu E.P ρ c h
 |_=> .X
def dH1(r:Res)(s:Res):Res:=match r with
 | .X=>s
 |r=>r
def eQ(E:Env)(ρ:An->EX)(o:Oper)(h:Heap):Res:=dH1 (mS E ρ o h) (pW E ρ o h)
def oS(o:Oper):Bool:=
 match o.op with
 | .move _| .pick .. | .alloc _| .box .. | .build .. | .buildSlice .. | .load .. | .nilCheck _| .binOp .. | .unOp .. | .makeInterface .. | .makeFunc ..
 | .makeMap .. | .makeSlice .. | .slice .. | .fieldAddr .. | .field .. | .indexAddr .. | .index .. | .lookup .. | .extract .. | .convert .. | .typeAssert .. =>true
 | .call {callee:= .builtin .len,..}| .call {callee:= .builtin .cap,..}| .call {callee:= .builtin .min,..}| .call {callee:= .builtin .max,..}=>true
 |_=>false
def gk(o:Oper):Bool:=
 match o.op with
 | .alloc _| .box .. | .buildSlice .. | .makeMap .. | .makeSlice .. =>true
 |_=>false
def rP(e:Edge):Bool:=match e.ground with
 | .textOnly _| .gcOnly _=>false
 |_=>true
def xI(acc:uq):List Edge->Nat
 | []=>0
 |e::r=>bif rP e then(2^e.on|||acc.getD e.on 0)|||xI acc r else xI acc r
def Ix:aaz->uq->Option uq
 | [],acc=>some acc
 |o::r,acc=>bif o.after.toList.all (λe=> !rP e||Nat.blt e.on acc.length)then Ix r (acc++[xI acc o.after.toList])else none
def d92:An->uq
 | .tmp t=>[t]
 |_=>[]
def nr(ops:aaz)(o:Oper):uq:=
 o.op.operands.toList.flatMap d92++(match o.guard with
  |some (j,_)=>match ops[j]? with
   |some g=>g.dst.toList
   |none=>[]
  |none=>[])
structure PO where
 i:Nat
 o:Oper
 m:Nat
 fl:Bool
abbrev aaH:= List PO
def tn:aaz->uq->Nat->aaH
 |o::r,m::ms,i=>⟨i,o,m,oS o⟩::tn r ms (i+1)
 |_,_,_=>[]
def QT(done:Nat):aaH->aaH×aaH×Nat
 | []=>([],[],done)
 |x::r=>bif x.fl&&Nat.beq (x.m&&&done) x.m then
  let (a,b,d):=QT (done|||2^x.i) r
  (x::a,b,d)
  else
   let (a,b,d):=QT done r
   (a,x::b,d)
def Yb:Nat->Nat->aaH->aaH
 |0,_,l=>l
 |f+1,done,l=>
  match QT done l with
  |(a,b,d)=>match b.find? (λx=> !x.fl)with
   |none=>a++b
   |some c=>a++c::Yb f (d|||2^c.i) (b.filter λx=> !(Nat.beq x.i c.i))
def Bw(o:Oper)(t:Nat):Bool:=match o.dst with
 |some d=>Nat.beq d t
 |none=>false
def dk0(ops:aaz)(l:aaH):Bool:=
 l.all λx=>((nr ops x.o).all λt=>l.all λy=> !(Bw y.o t)||x.m.testBit y.i||(!y.fl&&y.m.testBit x.i))&&
  (match x.o.dst with
  |none=>true
  |some d=>l.all λy=> !(Bw y.o d)||Nat.beq x.i y.i)
def dk1(l:aaH):Bool:=
 l.all λx=>x.fl||l.all λy=>y.fl|| !(Nat.blt y.i x.i)||x.m.testBit y.i
def eager:Nat->aaH->Bool
 |_,[]=>true
 |done,x::r=>Nat.beq (x.m&&&done) x.m&& !(done.testBit x.i)&&(x.fl||r.all (λy=> !y.fl|| !(Nat.beq (y.m&&&done) y.m)))&&eager (done|||2^x.i) r
def PP(ops:aaz)(l:aaH):aaH:=(Yb (ops.length+1) 0 l).filterMap λy=>l[y.i]?
def Ic(ops:aaz):Option aaH:=
 match Ix ops []with
 |none=>none
 |some ms=>bif dk0 ops (tn ops ms 0)&&dk1 (tn ops ms 0)&&eager 0 (PP ops (tn ops ms 0))&&
  (tn ops ms 0).all (λx=>(PP ops (tn ops ms 0)).any λy=>Nat.beq x.i y.i)then some (PP ops (tn ops ms 0))else none
mutual
def AV.beq:AV->AV->Bool
 | .bool a,.bool b=>a==b
 | .int k a,.int k' b=>decide (k=k')&&mR a b
 | .str a,.str b=>wU a b
 | .nilp,.nilp| .N,.N| .es0,.es0| .nilm,.nilm| .nilf,.nilf| .nili,.nili=>true
 | .ptr a b,.ptr c d=>Nat.beq a c&&Nat.beq b d
 | .glob a,.glob b| .map a,.map b| .opq a,.opq b=>Nat.beq a b
 | .K a,.K b| .H a,.H b=>SX.beq a b
 | .osl a b c d,.osl a' b' c' d'=>Nat.beq a a'&&SX.beq b b'&&SX.beq c c'&&Nat.beq d d'
 | .optr a b c d,.optr a' b' c' d'=>Nat.beq a a'&&SX.beq b b'&&Nat.beq c c'&&Nat.beq d d'
 | .U a b c,.U a' b' c'=>Nat.beq a a'&&SX.beq b b'&&Nat.beq c c'
 | .any,.any=>true
 | .atl a,.atl b=>Nat.beq a b
 | .Z k a,.Z k' b=>decide (k=k')&&SX.beq a b
 | .es a b c,.es a' b' c'=>Nat.beq a a'&&Nat.beq b b'&&Nat.beq c c'
 | .sl a b c d,.sl a' b' c' d'=>Nat.beq a a'&&Nat.beq b b'&&Nat.beq c c'&&Nat.beq d d'
 | .us a b c d,.us a' b' c' d'=>Nat.beq a a'&&Nat.beq b b'&&Nat.beq c c'&&Nat.beq d d'
 | .func f a b,.func g c d=>decide (f=g)&&AV.beqs a c&&AV.beqs b d
 | .iface t v,.iface u w=>Nat.beq t u&&AV.beq v w
 | .agg a,.agg b| .V a,.V b=>AV.beqs a b
 |_,_=>false
def AV.beqs:zw->zw->Bool
 | [],[]=>true
 |a::x,b::y=>AV.beq a b&&AV.beqs x y
 |_,_=>false
end
mutual
def fh(v0:Nat):SX->Bool
 | .V m=>Nat.blt m v0
 | .O _ l=>qL v0 l
 | .Q _ l=>qL v0 l
 |_=>true
def qL(v0:Nat):GF->Bool
 | []=>true
 |a::r=>fh v0 a&&qL v0 r
end
mutual
def eZ(v0 nb:Nat):AV->Bool
 | .bool _| .int _ _| .str _| .nilp| .glob _| .N| .es0| .nilm| .nilf| .nili| .opq _| .atl _| .any=>true
 | .ptr b _=>Nat.blt b nb
 | .sl b _ _ _=>Nat.blt b nb
 | .us b _ _ _=>Nat.blt b nb
 | .es b _ _=>Nat.blt b nb
 | .map b=>Nat.blt b nb
 | .yield b=>Nat.blt b nb
 | .func _ x y=>oe v0 nb x&&oe v0 nb y
 | .iface _ v=>eZ v0 nb v
 | .agg l=>oe v0 nb l
 | .V l=>oe v0 nb l
 | .Z _ e=>fh v0 e
 | .K e=>fh v0 e
 | .H e=>fh v0 e
 | .osl b x y _=>Nat.blt b nb&&fh v0 x&&fh v0 y
 | .optr b x _ _=>Nat.blt b nb&&fh v0 x
 | .U b x _=>Nat.blt b nb&&fh v0 x
def oe(v0 nb:Nat):zw->Bool
 | []=>true
 |a::r=>eZ v0 nb a&&oe v0 nb r
end
def yl(v0:Nat)(e:SX):mB:=match e with
 | .V m=>bif Nat.ble v0 m then some (m-v0)else none
 |_=>none
def lv(v0 n:Nat)(p x:SX):Option GF:=match yl v0 p with
 |some m=>bif Nat.beq m n then some [x]else none
 |none=>bif SX.beq p x&&fh v0 x then some []else none
def vt(v0 n:Nat)(p:SX)(x:aaD):Option GF:=match x with
 |some x=>lv v0 n p x
 |none=>none
def LZ(v0 n:Nat)(k:IntKind)(p:SX)(x:abf):Option GF:=match x with
 |some (k',x)=>if k=k' then lv v0 n p x else none
 |none=>none
def xz(v0 n:Nat)(p q x y:SX):Option GF:=match lv v0 n p x with
 |some es=>match lv v0 (n+es.length) q y with
  |some fs=>some (es++fs)
  |none=>none
 |none=>none
def Hc(v0 nb n b:Nat)(p q:SX)(s:Nat)(x:AV):Option GF:=match x with
 | .osl b' x y s'=>bif Nat.beq b b'&&Nat.beq s s'&&Nat.blt b nb then xz v0 n p q x y else none
 |_=>none
def Dv(v0 nb n b:Nat)(p:SX)(s:Nat)(x:AV):Option GF:=match x with
 | .U b' x s'=>bif Nat.beq b b'&&Nat.beq s s'&&Nat.blt b nb then lv v0 n p x else none
 |_=>none
mutual
def cF(v0 nb n:Nat):AV->AV->Option GF
 | .any,_=>some []
 | .Z k p,x=>LZ v0 n k p (jm x)
 | .K p,x=>vt v0 n p (mu x)
 | .H p,x=>vt v0 n p (lu x)
 | .agg ps,.agg xs=>lN v0 nb n ps xs
 | .osl b p q s,x=>Hc v0 nb n b p q s x
 | .U b p s,x=>Dv v0 nb n b p s x
 |p,x=>bif AV.beq p x&&eZ v0 nb x then some []else none
def lN(v0 nb n:Nat):zw->zw->Option GF
 | [],[]=>some []
 |p::ps,x::xs=>match cF v0 nb n p x with
  |some e=>match lN v0 nb (n+e.length) ps xs with
   |some es=>some (e++es)
   |none=>none
  |none=>none
 |_,_=>none
end
def yj(v0 nb:Nat):aaJ->aaJ->Bool
 | [],[]=>true
 |a::x,b::y=>AV.beq a.key b.key&&AV.beq a.val b.val&&Nat.beq a.born b.born&&eZ v0 nb b.key&&eZ v0 nb b.val&&yj v0 nb x y
 |_,_=>false
def om(v0 nb n:Nat)(p x:Blk):Option GF:=match p,x with
 | .cells e fz ps,.cells e' fz' xs=>bif Nat.beq e e'&&Nat.beq fz fz'&&ps.all AV.oneA then lN v0 nb n ps xs else none
 | .A e sig p,.A e' sig' x=>bif Nat.beq e e'&&fp sig sig' then lv v0 n p x else none
 | .map es c,.map es' c'=>bif yj v0 nb es es'&&Nat.beq c c' then some []else none
 | .marr d ks vs p,.marr d' ks' vs' x=>bif (!d||d')&&(fp ks ks'&&fp vs vs')then lv v0 n p x else none
 | .marr d _ _ p,.map [] c=>bif !d||Nat.beq c 0 then lv v0 n p (.O .row [])else none
 | .bag e sig p,.bag e' sig' x=>bif Nat.beq e e'&&fp sig sig' then lv v0 n p x else none
 |_,_=>none
def sU(v0 nb n:Nat)(p x:lW):Option GF:=match p with
 |none=>some []
 |some p=>match x with
  |some x=>om v0 nb n p x
  |none=>none
def Ln(v0 nb:Nat)(aP a:Fr):Nat->Nat->Nat->Option GF
 |0,_,_=>some []
 |m+1,t,n=>match cF v0 nb n (aP.slot t) (a.slot t)with
  |some e=>match Ln v0 nb aP a m (t+1) (n+e.length)with
   |some es=>some (e++es)
   |none=>none
  |none=>none
def Ll(v0 nb:Nat)(hP h:Heap):Nat->Nat->Nat->Option GF
 |0,_,_=>some []
 |m+1,b,n=>match sU v0 nb n (hP.get b) (h.get b)with
  |some e=>match Ll v0 nb hP h m (b+1) (n+e.length)with
   |some es=>some (e++es)
   |none=>none
  |none=>none
def tC(a:Fr):Bool:=a.ds.isEmpty&&a.ro.isNone
def sk(v0:Nat)(aP:Fr)(hP:Heap)(a:Fr)(h:Heap):Option GF:=
 bif tC aP&&tC a&&Nat.beq aP.nt a.nt&&Nat.ble hP.next h.next&&Nat.beq hP.wm h.wm then
  (match Ln v0 hP.next aP a aP.nt 0 0 with
  |some es=>match Ll v0 hP.next hP h hP.next 0 es.length with
   |some fs=>some (es++fs)
   |none=>none
  |none=>none)
 else none
def eH(a:Fr):aav->Fr
 | []=>a
 |(t,v)::r=>eH (a.put (some t) v) r
def layDead(a:Fr):uq->Fr
 | []=>a
 |t::r=>layDead (a.put (some t) .any) r
def dH4(n:Nat)(t:TH)(_ wm:Nat):Heap:=⟨t,n,wm⟩
def Heap.upto(h:Heap)(n:Nat):Heap:=Heap.rec (dH4 n) h
def gI(h:Heap):List (Nat×lW)->Heap
 | []=>h
 |(b,x)::r=>gI (h.put b x) r
def JF(a:Fr)(b:Nat):Nat->Bool
 |0=>false
 |t+1=>(match a.slot t with
  | .ptr b' _=>Nat.beq b b'
  | .map b'=>Nat.beq b b'
  |_=>false)||JF a b t
def dH5(h:Heap)(b:Nat):Bool:=match h.get b with
 |some (.A _ _ _)=>true
 |_=>false
def ZC(b:Nat):AV->Bool
 | .map b'=>Nat.beq b b'
 |_=>false
def dH7(b:Nat)(x:lW):Bool:=match x with
 |some (.cells _ _ cs)=>cs.any (ZC b)
 |_=>false
def Ky(b:Nat)(h:Heap):AV->Bool
 | .ptr c _=>dH7 b (h.get c)
 |_=>false
def Jq(a:Fr)(h:Heap)(b:Nat):Nat->Bool
 |0=>false
 |t+1=>(match a.slot t with
  | .func _ _ l=>l.any (Ky b h)
  | .ptr c o=>Ky b h (.ptr c o)
  |_=>false)||Jq a h b t
def Ii(a:Fr)(h:Heap)(n0:Nat)(next:Nat)(l:List (Nat×lW)):Bool:=l.all λp=>Nat.blt p.1 next&&(Nat.ble n0 p.1||JF a p.1 a.nt||dH5 h p.1||Jq a h p.1 a.nt)
def dX(v0:Nat)(q:Nat->SX)(e:SX):SX:=match yl v0 e with
 |some m=>q m
 |none=>e
mutual
def qb(v0:Nat)(q:Nat->SX):AV->AV
 | .Z k e=> .Z k (dX v0 q e)
 | .K e=> .K (dX v0 q e)
 | .H e=> .H (dX v0 q e)
 | .agg l=> .agg (Db v0 q l)
 | .osl b x y s=> .osl b (dX v0 q x) (dX v0 q y) s
 | .U b x s=> .U b (dX v0 q x) s
 |x=>x
def Db(v0:Nat)(q:Nat->SX):zw->zw
 | []=>[]
 |a::r=>qb v0 q a::Db v0 q r
end
def Ao(v0:Nat)(q:Nat->SX)(x:lW):lW:=match x with
 |some (.cells e fz cs)=>some (.cells e fz (Db v0 q cs))
 |some (.A e sig l)=>some (.A e sig (dX v0 q l))
 |some (.marr d ks vs l)=>some (.marr d ks vs (dX v0 q l))
 |some (.bag e sig l)=>some (.bag e sig (dX v0 q l))
 |x=>x
def yK(v0 nb:Nat):lW->Bool
 |none=>true
 |some (.cells _ _ cs)=>oe v0 nb cs
 |some (.A _ _ l)=>fh v0 l
 |some (.marr _ _ _ l)=>fh v0 l
 |some (.bag _ _ l)=>fh v0 l
 |some (.map es _)=>yj v0 nb es es
 |_=>false
def yd(v0 nb:Nat)(a:Fr):Nat->Bool
 |0=>true
 |t+1=>eZ v0 nb (a.slot t)&&yd v0 nb a t
def KB(v0 nb:Nat)(h:Heap):Nat->Bool
 |0=>true
 |t+1=>yK v0 nb (h.get t)&&KB v0 nb h t
mutual
def fR(b:Nat):AV->Bool
 | .ptr c _=> !(Nat.beq c b)
 | .sl c _ _ _=> !(Nat.beq c b)
 | .us c _ _ _=> !(Nat.beq c b)
 | .es c _ _=> !(Nat.beq c b)
 | .map c=> !(Nat.beq c b)
 | .yield c=> !(Nat.beq c b)
 | .func _ x y=>lc b x&&lc b y
 | .iface _ v=>fR b v
 | .agg l=>lc b l
 | .V l=>lc b l
 | .osl c _ _ _=> !(Nat.beq c b)
 | .optr c _ _ _=> !(Nat.beq c b)
 | .U c _ _=> !(Nat.beq c b)
 |_=>true
def lc(b:Nat):zw->Bool
 | []=>true
 |a::r=>fR b a&&lc b r
end
def oT(b:Nat):lW->Bool
 |none=>true
 |some (.cells _ _ cs)=>lc b cs
 |some (.A _ _ _)=>true
 |some (.map es _)=>es.all λe=>fR b e.key&&fR b e.val
 |some (.marr _ _ _ _)=>true
 |some (.bag _ _ _)=>true
 |some (.mrg it _ _ _ _)=> !(Nat.beq it b)
 |some (.mit m)=> !(Nat.beq m b)
 |some (.vec cs)=>lc b cs
 |_=>false
def qn(b t:Nat)(a:Fr):Nat->Bool
 |0=>a.ds.isEmpty
 |s+1=>(Nat.beq s t||fR b (a.slot s))&&qn b t a s
def vK(b:Nat)(h:Heap):Nat->Bool
 |0=>true
 |s+1=>oT b (h.get s)&&vK b h s
def lh(o:OwnP)(a:Fr)(h:Heap)(l:SX):Fr×Heap:=(a.put (some o.slot) (.U o.blk (.O .Y [l]) o.sig.length),h.put o.blk (some (.A o.elem o.sig l)))
def LH(len l:SX):Bool:=SX.beq len (.O .Y [l])||(match len,l with
 | .C 0,.O .row []=>true
 |_,_=>false)
def Jt(o:OwnP)(a:Fr)(h:Heap):aaR:=
 match a.slot o.slot with
 | .U r len sz=>bif Nat.beq r o.blk then(match h.get r with
  |some (.A e sig l)=>bif Nat.beq e o.elem&&fp sig o.sig&&Nat.beq sz sig.length then some (a,h)else none
  |_=>none)
  else bif Nat.blt o.slot a.nt&&Nat.blt o.blk h.next&&Nat.blt o.blk 65536&&(h.get o.blk).isNone&&qn o.blk o.slot a a.nt&&vK o.blk h h.next&&Nat.ble h.wm r then(match h.get r with
   |some (.A e sig l)=>bif Nat.beq e o.elem&&fp sig o.sig&&Nat.beq sz sig.length&&LH len l then some (lh o a (h.put r none) l)else none
   |_=>none)else none
 | .N=>bif Nat.blt o.slot a.nt&&Nat.blt o.blk h.next&&Nat.blt o.blk 65536&&(h.get o.blk).isNone&&qn o.blk o.slot a a.nt&&vK o.blk h h.next then some (lh o a h (.O .row []))else none
 | .us r 0 n sz=>bif Nat.blt o.slot a.nt&&Nat.blt o.blk h.next&&Nat.blt o.blk 65536&&(h.get o.blk).isNone&&qn o.blk o.slot a a.nt&&vK o.blk h h.next&&Nat.ble h.wm r&&Nat.blt 0 sz then(match h.get r with
  |some (.cells e 0 cs)=>bif Nat.beq e o.elem&&Nat.beq sz o.sig.length&&Nat.beq cs.length (n*sz)then(match lE o.sig sz n cs with
   |some rs=>some (lh o a (h.put r none) (.O .row rs))
   |none=>none)else none
  |_=>none)else none
 | .sl r p n c=>bif Nat.blt o.slot a.nt&&Nat.blt o.blk h.next&&Nat.blt o.blk 65536&&(h.get o.blk).isNone&&qn o.blk o.slot a a.nt&&vK o.blk h h.next&&Nat.ble h.wm r then(match h.get r with
  |some (.cells e fz cs)=>bif Nat.beq e o.elem&&Nat.ble fz p&&Nat.ble (p+c*o.sig.length) cs.length&&Nat.ble n c then(match lE o.sig o.sig.length n ((cs.drop p).take (n*o.sig.length))with
   |some rs=>some (lh o a (h.put r none) (.O .row rs))
   |none=>none)else none
  |_=>none)else none
 |_=>none
def Xb:AV->Bool
 | .U _ _ _=>false
 | .us _ _ _ _=>false
 | .sl _ _ _ _=>false
 |_=>true
def yI(o:OwnP)(a:Fr)(h:Heap):Heap:=match a.slot o.slot with
 | .U r _ _=>bif Nat.beq r o.blk||(h.get o.blk).isNone then h else h.put o.blk none
 |_=>h
def Ws(o:OwnP)(a:Fr)(h:Heap):aaR:=bif o.lz&&Xb (a.slot o.slot)then some (a,h)else Jt o a (yI o a h)
def HW(o:OwnP)(c i e fz:Nat)(cs:zw)(h:Heap)(l:SX):Heap:=(h.put c (some (.cells e fz (cs.set i (.U o.blk (.O .Y [l]) o.sig.length))))).put o.blk (some (.A o.elem o.sig l))
def Ly(b c:Nat)(cs:zw)(h:Heap):Nat->Bool
 |0=>lc b cs
 |s+1=>(Nat.beq s c||oT b (h.get s))&&Ly b c cs h s
def Pl(o:OwnP)(c i e fz:Nat)(cs:zw)(a:Fr)(h:Heap)(x:EX):aaR:=match x with
 |some (.U r len sz)=>bif Nat.beq r o.blk then(match h.get r with
  |some (.A e sig l)=>bif Nat.beq e o.elem&&fp sig o.sig&&Nat.beq sz sig.length then some (a,h)else none
  |_=>none)
  else bif Nat.ble h.wm r&& !(Nat.beq r c)then(match h.get r with
   |some (.A e' sig l)=>bif Nat.beq e' o.elem&&fp sig o.sig&&Nat.beq sz sig.length&&LH len l then some (a,HW o c i e fz cs (h.put r none) l)else none
   |_=>none)else none
 |some .N=>some (a,HW o c i e fz cs h (.O .row []))
 |some (.us r 0 n sz)=>bif Nat.ble h.wm r&&Nat.blt 0 sz&& !(Nat.beq r c)then(match h.get r with
  |some (.cells e' 0 ds)=>bif Nat.beq e' o.elem&&Nat.beq sz o.sig.length&&Nat.beq ds.length (n*sz)then(match lE o.sig sz n ds with
   |some rs=>some (a,HW o c i e fz cs (h.put r none) (.O .row rs))
   |none=>none)else none
  |_=>none)else none
 |_=>none
def Ig(b:Nat)(x:EX):Bool:=match x with
 |some (.U r _ _)=>Nat.beq r b
 |some (.ptr r _)=>Nat.beq r b
 |some (.map r)=>Nat.beq r b
 |_=>false
def Jj(c:Nat)(x:AV):Bool:=match x with
 | .ptr b _=>Nat.beq b c
 |_=>false
def JE(c:Nat):zw->Bool
 | []=>false
 |x::r=>Jj c x||JE c r
def Vl(c:Nat)(x:AV)(h:Heap):Bool:=Jj c x||(match x with
 | .ptr b _=>(match h.get b with
   |some (.cells _ _ cs)=>JE c cs
   |_=>false)
 |_=>false)
def Mv(o:OwnP)(c i e fz:Nat)(cs:zw)(a:Fr)(h:Heap)(y:AV)(r:Nat):aaR:=bif Nat.ble h.wm r&& !(Nat.beq r c)then(match h.get r with
 |some x=>bif oT o.blk (some x)then some (a,((h.put r none).put c (some (.cells e fz (cs.set i y)))).put o.blk (some x))else none
 |none=>none)else none
def Ph(o:OwnP)(c i e fz:Nat)(cs:zw)(a:Fr)(h:Heap)(x:EX):aaR:=match x with
 |some (.ptr r p)=>bif Nat.beq r o.blk then some (a,h)else Mv o c i e fz cs a h (.ptr o.blk p) r
 |some (.map r)=>bif Nat.beq r o.blk then some (a,h)else Mv o c i e fz cs a h (.map o.blk) r
 |_=>none
def LX(o:OwnP)(c i:Nat)(a:Fr)(h:Heap):aaR:=match h.get c with
 |some (.cells e fz cs)=>bif Vl c (a.slot o.slot) h&&Nat.blt o.slot a.nt&&Nat.blt i cs.length&&(Ig o.blk cs[i]? ||(Nat.blt o.blk h.next&&Nat.blt o.blk 65536&&(h.get o.blk).isNone&& !(Nat.beq c o.blk)&&qn o.blk a.nt a a.nt&&Ly o.blk c (cs.set i .N) h h.next))then(bif o.sig.isEmpty then Ph o c i e fz cs a h cs[i]? else Pl o c i e fz cs a h cs[i]?)else none
 |_=>none
def zQ(o:OwnP)(c i:Nat)(h:Heap):Heap:=match h.get c with
 |some (.cells _ _ cs)=>bif Ig o.blk cs[i]? ||(h.get o.blk).isNone||Nat.beq c o.blk then h else h.put o.blk none
 |_=>h
def Ow(o:OwnP)(a:Fr)(h:Heap):aaR:=match o.cell with
 |none=>Ws o a h
 |some p=>LX o p.1 p.2 a (zQ o p.1 p.2 h)
def wt:aaO->Fr->Heap->aaR
 | [],a,h=>some (a,h)
 |o::r,a,h=>match Ow o a h with
  |some p=>wt r p.1 p.2
  |none=>none
def Bm:Ex->Ex->Bool
 | .norm,.norm=>true
 | .ret,.ret=>true
 | .exit a,.exit b=>Nat.beq a b
 |_,_=>false
structure Pend where
 i:Nat
 o:Oper
 v:AV
 nd:aaD
abbrev aaL:= List Pend
inductive Task (R:Type)where
 |code (c:Code) (a:Fr) (h:Heap) (k:Ex->Fr->Heap->R)
 |loop (c:Code) (a:Fr) (h:Heap) (k:Ex->Fr->Heap->R)
 |ops (all rest:aaz) (a:Fr) (h:Heap) (k:Fr->Heap->R)
 |dops (all:aaz) (rest:aaH) (pend:aaL) (a:Fr) (h:Heap) (k:Fr->Heap->R)
 |call (f:FuncId) (args:zw) (h:Heap) (k:AV->Heap->R)
 |body (f:FuncId) (args:zw) (h:Heap) (k:AV->Heap->R)
 |dbody (f:FuncId) (args:zw) (h:Heap) (k:AV->Heap->R)
 |leave (rs:aaT) (a:Fr) (ds:aaF) (h:Heap) (k:AV->Heap->R)
abbrev PC:=aaS
structure Alg (R:Type)where
 X:R
 amb:List (AV×Heap)->(AV×Heap->R)->R
 J:SX->R->R->R
 N:SX->R->R
 loop:LHd->VT->List R->R
 mloop:LHd->SX->VT->List R->R
def oU:Alg Bool:=⟨false,λl f=>l.all f,λ_ x y=>x&&y,λ_ _=>false,λ_ _ _=>false,λ_ _ _ _=>false⟩
def QA:Alg aaq:=⟨none,λl f=>match l with
 |x::_=>f x
 | []=>none,λ_ _ _=>none,λ_ _=>none,λ_ _ _=>none,λ_ _ _ _=>none⟩
structure VC where
 pc:PC
 cl:SX
def d96(p:Prim)(l:GF):SX×Bool:=match p,l with
 | .cmp .geq,[a,b]=>(.O (.cmp .lss) [a,b],false)
 | .cmp .gtr,[a,b]=>(.O (.cmp .lss) [b,a],true)
 | .cmp .leq,[a,b]=>(.O (.cmp .lss) [b,a],false)
 | .cmp .neq,[a,b]=>(.O (.cmp .eql) [a,b],false)
 | .scmp .geq,[a,b]=>(.O (.scmp .lss) [a,b],false)
 | .scmp .gtr,[a,b]=>(.O (.scmp .lss) [b,a],true)
 | .scmp .leq,[a,b]=>(.O (.scmp .lss) [b,a],false)
 | .scmp .neq,[a,b]=>(.O (.scmp .eql) [a,b],false)
 |p,l=>(.O p l,true)
def Bi(e:SX):SX×Bool:=match e with
 | .O p l=>d96 p l
 |e=>(e,true)
def Ki(e:SX):PC->S8
 | []=>none
 |p::r=>bif SX.beq e p.1 then some p.2 else Ki e r
def Pi(a b:Bool):Bool:=bif a then b else !b
def Wm(c:SX×Bool)(pc:PC):S8:=match Ki c.1 pc with
 |some b=>some (Pi b c.2)
 |none=>none
def Qf(a b:S8):S8:=match a with
 |some false=>some false
 |some true=>b
 |none=>match b with
  |some false=>some false
  |_=>none
def Pp(a b:S8):S8:=match a with
 |some true=>some true
 |some false=>b
 |none=>match b with
  |some true=>some true
  |_=>none
def ec7(a:S8):S8:=match a with
 |some b=>some (!b)
 |none=>none
def Zr(c a b:S8):S8:=match c with
 |some true=>a
 |some false=>b
 |none=>none
def d97(k:SX->S8)(p:Prim)(l:GF):S8:=match p,l with
 | .not,[a]=>ec7 (k a)
 | .and,[a,b]=>Qf (k a) (k b)
 | .or,[a,b]=>Pp (k a) (k b)
 | .J,[c,a,b]=>Zr (k c) (k a) (k b)
 |p,l=>Lc (.O p l)
def Xu(k:SX->S8)(e:SX):S8:=match e with
 | .cb b=>some b
 | .O p l=>d97 k p l
 |_=>none
def Pn(pc:PC)(k:SX->S8)(e:SX):S8:=match Wm (Bi e) pc with
 |some b=>some b
 |none=>Xu k e
def oQ(pc:PC)(n:Nat):SX->S8:=Nat.rec (motive:=λ_=>SX->S8) (λ_=>none) (λ_ k=>Pn pc k) n
def XB(k:SX->Bool->PC)(p:Prim)(l:GF)(b:Bool):PC:=match p,l with
 | .not,[a]=>k a (!b)
 | .and,[x,y]=>bif b then k x true++k y true else []
 | .or,[x,y]=>bif b then []else k x false++k y false
 | .J,[c,x,.cb false]=>bif b then k c true++k x true else []
 | .J,[c,.cb true,y]=>bif b then []else k c false++k y false
 |_,_=>[]
def Tg(k:SX->Bool->PC)(e:SX)(b:Bool):PC:=match e with
 | .O p l=>XB k p l b
 |_=>[]
def dH8(c:SX×Bool)(b:Bool):SX×Bool:=(c.1,Pi c.2 b)
def dH9(k:SX->Bool->PC)(e:SX)(b:Bool):PC:=dH8 (Bi e) b::Tg k e b
def Am(n:Nat):SX->Bool->PC:=Nat.rec (motive:=λ_=>SX->Bool->PC) (λ_ _=>[]) (λ_ k=>dH9 k) n
abbrev gY:=PC->VT
def ec9(pc:PC)(k:SX->SX)(p:Prim)(l:GF):SX:=match p,l with
 | .J,[c,a,b]=>(match oQ pc 8 c with
   |some true=>k a
   |some false=>k b
   |none=> .O .J [c,a,b])
 | .and,[a,b]=>(match oQ pc 8 a with
   |some true=>k b
   |_=>(match oQ pc 8 b with
    |some true=>k a
    |_=> .O .and [a,b]))
 | .or,[a,b]=>(match oQ pc 8 a with
   |some false=>k b
   |_=>(match oQ pc 8 b with
    |some false=>k a
    |_=> .O .or [a,b]))
 | .not,[a]=> .O .not [k a]
 |p,l=> .O p l
def Vp(pc:PC)(k:SX->SX)(e:SX):SX:=match e with
 | .O p l=>ec9 pc k p l
 |e=>e
def Ho(pc:PC)(n:Nat):SX->SX:=Nat.rec (motive:=λ_=>SX->SX) (λe=>e) (λ_ k=>Vp pc k) n
def Wq(pc:PC)(k:SX->SX)(p:Prim)(l:GF):SX:=match p,l with
 | .J,[c,a,b]=>(match oQ pc 8 c with
   |some true=>k a
   |some false=>k b
   |none=> .O .J [c,a,b])
 |p,l=> .O p l
def PQ(pc:PC)(k:SX->SX)(e:SX):SX:=match e with
 | .O p l=>Wq pc k p l
 |e=>e
def Mf(pc:PC)(n:Nat):SX->SX:=Nat.rec (motive:=λ_=>SX->SX) (λe=>e) (λ_ k=>PQ pc k) n
def Tp(e:SX)(x y:gY)(pc:PC)(b:S8):VT:=match b with
 |some true=>x pc
 |some false=>y pc
 |none=> .J (Ho pc 16 e) (x (Am 8 e true++pc)) (y (Am 8 e false++pc))
def Qk(e:SX)(x:gY)(pc:PC)(b:S8):VT:=match b with
 |some true=>x pc
 |_=> .N (Ho pc 16 e) (x (Am 8 e true++pc))
def Qv(l:List (AV×Heap))(f:AV×Heap->gY)(pc:PC):VT:=match l with
 | [x]=>f x pc
 | [x,y]=> .both (f x pc) (f y pc)
 |_=> .X
def tJ(pc:PC):List gY->abd
 | []=>[]
 |k::r=>k pc::tJ pc r
def jX:Alg gY:=⟨λ_=> .X,λl f pc=>Qv l f pc,λe x y pc=>Tp e x y pc (oQ pc 8 e),λe x pc=>Qk e x pc (oQ pc 8 e),λhd body ks pc=> .loop hd body (tJ pc ks),λhd l body ks pc=> .mloop hd l body (tJ pc ks)⟩
def eE(all:aaz)(a:Fr)(o:Oper):S8:=
 match o.guard with
 |none=>some true
 |some (j,want)=>match(all[j]?).bind (·.dst)with
  |none=>some false
  |some d=>bif Nat.blt d a.nt then match a.slot d with
   | .bool b=>some (b==want)
   | .H e=>match yU e a.pc with
     |some b=>some (b==want)
     |none=>none
   | .opq _=>none
   | .any=>none
   |_=>some false
   else some false
def wx(all:aaz)(a:Fr)(o:Oper):aaD:=
 match o.guard with
 |none=>none
 |some (j,_)=>match(all[j]?).bind (·.dst)with
  |none=>none
  |some d=>match a.slot d with
   | .H e=>some e
   |_=>none
def Sl(P:yJ)(a:Fr)(h:Heap):ResultVar->EX
 | .tmp t=>some (a.slot t)
 | .cell x t=>FY P t (a.slot x) h
def oF(P:yJ)(a:Fr)(h:Heap):aaT->Option zw
 | []=>some []
 |r::l=>match Sl P a h r,oF P a h l with
  |some v,some vs=>some (v::vs)
  |_,_=>none
def OA:zw->AV
 | [v]=>v
 |vs=> .V vs
def qN:zw->Nat->TF->TF
 | [],_,t=>t
 |v::r,i,t=>qN r (i+1) (t.set i v)
def ed0(nd:aaD)(e:SX):Bool:=match nd with
 |some x=>SX.beq x e
 |none=>false
def bT1(r:Res)(nd:aaD)(v:AV):Bool:=match r with
 | .val v' _=>AV.beq v' v
 | .N e v' _=>ed0 nd e&&AV.beq v' v
 |_=>false
def ue(E:Env)(a:Fr)(h:Heap):aaL->Bool
 | []=>true
 |p::r=>(gk p.o||bT1 (eQ E a.ev p.o h) p.nd p.v)&&ue E a h r
def wc:AV->Bool
 | .bool _| .int _ _| .str _| .nilp| .N| .nilm| .nilf| .nili| .Z _ _| .K _| .H _=>true
 |_=>false
inductive Out where
 |plain (v:AV)
 |row (elem:Nat) (len sz:Nat) (cs:zw)
 deriving Inhabited
abbrev aa1:= List Out
abbrev aaP:= Option (Bool×aa1)
def Vk(wm:Nat)(h:Heap)(v:AV):Option Out:=
 match v with
 | .us b 0 len sz=>bif Nat.ble wm b then match h.get b with
   |some (.cells e 0 cs)=>bif Nat.beq cs.length (len*sz)&&cs.all wc then some (.row e len sz cs)else none
   |_=>none
   else none
 |v=>bif wc v then some (.plain v)else none
def rI(wm:Nat)(h:Heap):zw->Option aa1
 | []=>some []
 |v::r=>match Vk wm h v,rI wm h r with
  |some o,some os=>some (o::os)
  |_,_=>none
def qI:aa1->Nat
 | []=>0
 | .plain _::r=>qI r
 | .row _ _ _ _::r=>qI r+1
def Jg(b:Bool)(l:aa1):aaP:=bif Nat.ble (qI l) 1 then some (b,l)else none
def wJ(wm:Nat)(h:Heap)(v:AV):aaP:=
 match v with
 | .V vs=>(rI wm h vs).bind (Jg true)
 |v=>(rI wm h [v]).bind (Jg false)
def Out.beq:Out->Out->Bool
 | .plain a,.plain b=>AV.beq a b
 | .row e l s c,.row e' l' s' c'=>Nat.beq e e'&&Nat.beq l l'&&Nat.beq s s'&&AV.beqs c c'
 |_,_=>false
def Jy:aa1->aa1->Bool
 | [],[]=>true
 |a::x,b::y=>Out.beq a b&&Jy x y
 |_,_=>false
def dI1(x y:aaP):Bool:=
 match x,y with
 |some (a,l),some (b,m)=>(a==b)&&Jy l m
 |_,_=>false
def lK:aa1->Heap->zw×Heap
 | [],h=>([],h)
 | .plain v::r,h=>let (vs,h'):=lK r h;(v::vs,h')
 | .row e len sz cs::r,h=>let (vs,h'):=lK r (h.new (.cells e 0 cs));(.us h.next 0 len sz::vs,h')
def Dm(b:Bool)(l:aa1)(h:Heap):AV×Heap:=
 match lK l h with
 |(vs,h')=>(bif b then .V vs else vs.headD .undef,h')
def dI2(t:TH)(next _:Nat):Heap:=⟨t,next,next⟩
def Heap.raise(h:Heap):Heap:=Heap.rec dI2 h
abbrev dw:=(R:Type)->Alg R->Task R->R
section
variable{R:Type}
def ed1(rec:dw)(A:Alg R)(y:Code)(k:Ex->Fr->Heap->R)(e:Ex)(a:Fr)(h:Heap):R:=match e with
 | .norm=>rec R A (.code y a h k)
 |e=>k e a h
def IY(id:Nat)(k:Ex->Fr->Heap->R)(e:Ex)(a:Fr)(h:Heap):R:=match e with
 | .exit i=>bif Nat.beq i id then k .norm a h else k (.exit i) a h
 |e=>k e a h
def e25(rec:dw)(A:Alg R)(c:Code)(k:Ex->Fr->Heap->R)(e:Ex)(a:Fr)(h:Heap):R:=match e with
 | .norm=>rec R A (.loop c a h k)
 |e=>k e a h
def Gm(ro:mB)(k:Ex->Fr->Heap->R)(a:Fr)(h:Heap):R:=k .norm (a.back ro) h
def cm2(rec:dw)(A:Alg R)(x y:Code)(a:Fr)(h:Heap)(k:Ex->Fr->Heap->R)(e:SX)(p:S8):R:=match p with
 |some b=>rec R A (.code (bif b then x else y) a h k)
 |none=>A.J e (rec R A (.code x (a.cond (e,true)) h k)) (rec R A (.code y (a.cond (e,false)) h k))
def Qj(rec:dw)(A:Alg R)(x y:Code)(a:Fr)(h:Heap)(k:Ex->Fr->Heap->R)(v:EX):R:=match v with
 |some (.bool b)=>rec R A (.code (bif b then x else y) a h k)
 |some (.H e)=>cm2 rec A x y a h k e (yU e a.pc)
 |_=>A.X
def AA:Code->Nat
 | .region id _ _=>id
 | .seq x _=>AA x
 | .block _ b=>AA b
 | .loop b=>AA b
 | .scope b=>AA b
 |_=>0
structure LSt where
 a:Fr
 h:Heap
def fL(id:Nat)(args:GF)(j:Nat):SX:= .O .G [.Q id args,.C 1,.C j]
def df(sp:LSpec)(a:Fr)(h:Heap):LSt:=⟨(eH (layDead a sp.dead) sp.head.slots).clear,gI h sp.head.blks⟩
def eO(sp:LSpec)(a:Fr)(h:Heap):LSt:=⟨layDead (layDead a sp.dead) (sp.head.slots.map (·.1)),gI h (sp.head.blks.map λp=>(p.1,none))⟩
def gJ(sp:LSpec)(a:Fr)(h:Heap)(x:StP):LSt:=⟨(eH (eO sp a h).a x.slots).clear,(gI (eO sp a h).h x.blks).upto x.next⟩
def jO(sp:LSpec)(q:Nat->SX)(a:Fr)(h:Heap)(x:StP):LSt:=
 ⟨eH (eO sp a h).a (x.slots.map λp=>(p.1,qb sp.v0 q p.2)),(gI (eO sp a h).h (x.blks.map λp=>(p.1,Ao sp.v0 q p.2))).upto x.next⟩
def sb(sp:LSpec)(a:Fr)(h:Heap)(e:Ex)(a':Fr)(h':Heap):List (Ex×StP)->Nat->VT
 | [],_=> .X
 |x::r,i=>bif Bm x.1 e then(match sk sp.v0 (gJ sp a h x.2).a (gJ sp a h x.2).h a' h' with
  |some es=> .W (i+1) es
  |none=>sb sp a h e a' h' r (i+1))else sb sp a h e a' h' r (i+1)
def Bh(t:Nat):uq->Bool
 | []=>false
 |a::r=>bif Nat.beq a t then true else Bh t r
mutual
def rL:AV->uq
 | .ptr b _=>[b]
 | .osl b _ _ _=>[b]
 | .U b _ _=>[b]
 | .map b=>[b]
 | .agg l=>Df l
 | .func _ _ l=>Df l
 |_=>[]
def Df:zw->uq
 | []=>[]
 |a::r=>rL a++Df r
end
def dI3(h:Heap)(b:Nat):uq:=match h.get b with
 |some (.cells _ _ cs)=>Df cs
 |_=>[]
def Sg(h:Heap):Nat->uq->uq->uq
 |0,_,s=>s
 |_,[],s=>s
 |n+1,b::r,s=>bif Bh b s then Sg h n r s else Sg h n (dI3 h b++r) (b::s)
def dI4(a:Fr):Nat->uq
 |0=>[]
 |t+1=>rL (a.slot t)++dI4 a t
def dI5(h:Heap):Nat->uq
 |0=>[]
 |b+1=>dI3 h b++dI5 h b
def tf(s:uq)(n0:Nat)(h:Heap):Nat->Heap
 |0=>h
 |k+1=>tf s n0 (bif Bh (n0+k) s then h else h.put (n0+k) none) k
def ei4(n0:Nat)(a:Fr)(h:Heap):Heap:=tf (Sg h 100000 (dI4 a a.nt++dI5 h n0) []) n0 h (h.next-n0)
def vd(sp:LSpec)(a:Fr)(h:Heap):Heap:=bif sp.owns.any (λo=>o.sig.isEmpty)then ei4 sp.head.next a h else h
def ix(sp:LSpec)(a:Fr)(h:Heap):Fr×Heap:=match wt sp.owns (layDead a sp.dead) (vd sp (layDead a sp.dead) h)with
 |some p=>p
 |none=>(layDead a sp.dead,h)
def Wb(p:Prim)(l:GF):Bool:=match p,l with
 | .cmp .leq,[.C 0,.O .Y [_]]=>true
 | .cmp .leq,[.C 0,.O .slen [_]]=>true
 | .cmp .leq,[.C a,.C b]=> !(gQ b a)
 | .cmp .lss,[.C a,.C b]=>gQ a b
 |_,_=>false
def DQ(e:SX):Bool:=match e with
 | .cb b=>b
 | .O p l=>Wb p l
 |_=>false
def Ew(e:SX):Bool:=match e with
 | .O .and [a,b]=>DQ a&&DQ b
 |e=>DQ e
def Bf(e:SX):Bool:=match e with
 | .O .and [a,b]=>Ew a&&Ew b
 |e=>Ew e
def Ng(p:Prim)(l:GF):Bool:=match p,l with
 | .cmp .leq,[.C a,.C b]=> !(gQ b a)
 | .cmp .lss,[.C a,.C b]=>gQ a b
 | .bok,[.O .row []]=>true
 |_,_=>false
def dI6(p:Prim)(l:GF):SX:=bif Ng p l then .cb true else .O p l
def Ed:Nat->SX->SX
 |0,e=>e
 |n+1,e=>match e with
  | .O .and [a,b]=>gL (Ed n a) (Ed n b)
  | .O p l=>dI6 p l
  |e=>e
def dI7(e:SX):Bool:=match e with
 | .O .and [.O .and [.O .and [_,_],_],_]=>true
 |_=>false
def dI8(A:Alg R)(e:SX)(x:R):R:=match e with
 | .cb true=>x
 |e=>A.N e x
def needA(A:Alg R)(e:SX)(x:R):R:=bif Bf e then x else bif dI7 e then dI8 A (Ed 30 e) x else A.N e x
def oB(o:OwnP)(a:Fr)(h:Heap):SX×Fr:=match o.cell,a.slot o.slot with
 |none,.U r len s=>(match h.get r with
  |some (.A _ _ l)=>bif Nat.beq r o.blk||SX.beq len (.O .Y [l])then(.cb true,a)else(.O (.cmp .eql) [len,.O .Y [l]],a.put (some o.slot) (.U r (.O .Y [l]) s))
  |_=>(.cb true,a))
 |_,_=>(.cb true,a)
def eJ:aaO->Fr->Heap->SX×Fr
 | [],a,_=>(.cb true,a)
 |o::r,a,h=>match oB o a h with
  |(e,a')=>match eJ r a' h with
   |(e',b)=>(gL e e',b)
def Nv(e:SX)(x:VT):VT:=bif Bf e then x else .N e x
def Dl(sp:LSpec)(a:Fr)(h:Heap)(p:Fr×Heap):VT:=match sk sp.v0 (df sp a h).a (df sp a h).h p.1 p.2 with
 |some es=> .W 0 es
 |none=> .X
def NV(sp:LSpec)(a:Fr)(h:Heap)(e:Ex)(p:Fr×Heap):VT:=sb sp a h e p.1 p.2 sp.exits 0
def dI9(sp:LSpec)(a:Fr)(h:Heap)(e:Ex)(a':Fr)(h':Heap):VT:=match e with
 | .norm=>Nv (eJ sp.owns a' h').1 (Dl sp a h (ix sp (eJ sp.owns a' h').2 h'))
 |e=>Nv (eJ sp.owns a' h').1 (NV sp a h e (ix sp (eJ sp.owns a' h').2 h'))
def vo(sp:LSpec)(a:Fr)(h:Heap)(e:Ex)(a':Fr)(h':Heap)(_:PC):VT:=dI9 sp a h e a' h'
def wP(sp:LSpec)(a:Fr)(h:Heap)(n0:Nat):Bool:=sp.owns.all (λo=>Nat.ble n0 o.blk)&&Ii a h n0 h.next sp.head.blks&&sp.exits.all (λx=>Nat.ble h.next x.2.next&&Ii a h n0 x.2.next x.2.blks)&&qL sp.v0 sp.fv&&tC a&&yd sp.v0 h.next (eO sp a h).a a.nt&&KB sp.v0 h.next (eO sp a h).h h.next
def LV(rec:dw)(A:Alg R)(c:Code)(n0:Nat)(k:Ex->Fr->Heap->R)(sp:LSpec)(a:Fr)(h:Heap):R:=
 bif wP sp a h n0 then
  (match sk sp.v0 (df sp a h).a (df sp a h).h a h with
  |some s0=>A.loop ⟨sp.id,s0,sp.v0,sp.fv⟩ (rec gY jX (.code c (df sp a h).a (df sp a h).h (vo sp a h)) [])
   (sp.exits.map λx=>k x.1 (jO sp (fL sp.id (s0++sp.fv)) a h x.2).a (jO sp (fL sp.id (s0++sp.fv)) a h x.2).h)
  |none=>A.X)
 else A.X
structure MC where
 ops1:aaW
 o1:Oper
 o2:Oper
 tok:An
 xid:Nat
 bid:Nat
 ops2:aaW
 o3:Oper
 r3:aaz
 rest:Code
def Cp(c:Code):Option MC:=match c with
 | .seq (.region _ ops1 false) (.seq (.cond tok .skip (.exit x)) (.block b (.seq (.region _ ops2 false) rest)))=>(match ops1.toList,ops2.toList with
   | [o1,o2],o3::r3=>some ⟨ops1,o1,o2,tok,x,b,ops2,o3,r3,rest⟩
   |_,_=>none)
 |_=>none
structure MO where
 it:Nat
 d1:Nat
 d2:Nat
 d3:Nat
def vZ(o:Oper):Bool:=match o.guard with
 |none=>true
 |some _=>false
def e26(it d1 d2 d3:Nat)(nt:Nat)(o1 o2 o3:Oper):Option MO:=bif vZ o1&&vZ o2&&vZ o3&&Nat.blt d1 nt&&Nat.blt d2 nt&& !(Nat.beq d1 d2)then some ⟨it,d1,d2,d3⟩else none
def KI(m:MC)(a:Fr):Option MO:=match m.o1.op,m.o1.dst,m.o2.op,m.o2.dst,m.tok,m.o3.op,m.o3.dst with
 | .next (.tmp t) false,some d1,.extract (.tmp d1') 0,some d2,.tmp d2',.entry (.tmp t'),some d3=>bif Nat.beq d1 d1'&&Nat.beq d2 d2'&&Nat.beq t t'&& !(Nat.beq t d1)&& !(Nat.beq t d2)then(match a.slot t with
   | .ptr it 0=>e26 it d1 d2 d3 a.nt m.o1 m.o2 m.o3
   |_=>none)else none
 |_,_,_,_,_,_,_=>none
def ei5(b:Nat)(p:Nat×lW):Nat×lW:=bif Nat.beq p.1 b then(match p.2 with
 |some (.A e sig l)=>(p.1,some (.bag e sig l))
 |_=>p)else p
def Hh(sp:LSpec)(it m ob:Nat)(lm:SX):LSpec:=⟨sp.id,sp.owns,sp.v0,sp.fv++[lm],sp.dead,⟨sp.head.slots,(it,none)::(m,none)::sp.head.blks,sp.head.next⟩,sp.exits.map λx=>(x.1,⟨x.2.slots,x.2.blks.map (ei5 ob),x.2.next⟩),true⟩
def GR(ks vs:wD)(l idx:SX):AV:= .V [jo (Fi (ks++vs) l idx 0 ks.length),jo (Fi (ks++vs) l idx ks.length vs.length)]
def dJ0(rec:dw)(sp:LSpec)(mc:MC)(a:Fr)(h:Heap)(a3:Fr):VT:=rec gY jX (.ops mc.ops2.toList mc.r3 a3 (df sp a h).h (Gm none (ed1 rec jX mc.rest (IY mc.bid (vo sp a h))))) []
def Jr(v0 nb ob b:Nat)(x:lW):Bool:=bif Nat.beq b ob then(match x with
 |some (.A _ _ (.V n))=>Nat.beq n (v0+1)
 |_=>false)else yK (v0+1) nb x
def Cd(v0 nb ob:Nat)(h:Heap):Nat->Bool
 |0=>true
 |t+1=>Jr v0 nb ob t (h.get t)&&Cd v0 nb ob h t
def Gc(x:lW):lW:=match x with
 |some (.A e sig l)=>some (.bag e sig l)
 |x=>x
def EB(x:lW):Bool:=match x with
 |none=>true
 |some _=>false
def Qx(v0:Nat)(es:GF):Bool:=match es with
 | [.V n,.V m]=>Nat.beq n v0&&Nat.beq m (v0+1)
 |_=>false
def Gz(h1 h2:Heap):Nat->Bool
 |0=>true
 |t+1=>(EB (h1.get t)|| !(EB (h2.get t)))&&Gz h1 h2 t
def tX(sp:LSpec)(mo:MO)(a:Fr)(h:Heap):Fr:=((df sp a h).a.put (some mo.d1) (.V [.bool false])).put (some mo.d2) (.bool false)
def Ja(sp:LSpec)(mo:MO)(ob:Nat)(a:Fr)(h:Heap)(x:StP):Bool:=match sk sp.v0 (gJ sp a h x).a (gJ sp a h x).h (tX sp mo a h) ((df sp a h).h.put ob (Gc ((df sp a h).h.get ob)))with
 |some es=>Qx sp.v0 es
 |none=>false
def Mm(sp:LSpec)(a:Fr)(h:Heap)(n0:Nat)(mo:MO)(m ob:Nat)(lm:SX):Bool:=
 wP sp a h n0&&Nat.ble h.wm n0&&Nat.ble h.wm mo.it&&Nat.blt m n0&&Nat.ble n0 ob&&Nat.blt mo.it n0&&EB ((df sp a h).h.get mo.it)&&EB ((df sp a h).h.get m)&&fh sp.v0 lm&&
 yd (sp.v0+1) h.next (df sp a h).a a.nt&&yd (sp.v0+1) h.next (tX sp mo a h) a.nt&&Cd sp.v0 h.next ob (df sp a h).h h.next
def JK(rec:dw)(A:Alg R)(n0:Nat)(k:Ex->Fr->Heap->R)(sp:LSpec)(a:Fr)(h:Heap)(mc:MC)(mo:MO)(m ob:Nat)(d:Bool)(ks vs:wD)(lm:SX)(x:Ex×StP):R:=match x.1 with
 | .exit xid=>bif Nat.beq xid mc.xid&&Mm sp a h n0 mo m ob lm&&Nat.blt m x.2.next&&Ja sp mo ob a h x.2 then(match sk sp.v0 (df sp a h).a (df sp a h).h a h with
  |some [s0,s1]=>bif Gz (jO sp (fL sp.id (s0::s1::sp.fv)) a h x.2).h (df sp a h).h x.2.next then A.mloop ⟨sp.id,[s0,s1],sp.v0,sp.fv⟩ lm
   (dJ0 rec sp mc a h ((((df sp a h).a.put (some mo.d1) .any).put (some mo.d2) (.bool true)).put (some mo.d3) (GR ks vs lm (.V (sp.v0+2)))))
   [k x.1 (jO sp (fL sp.id (s0::s1::sp.fv)) a h x.2).a ((jO sp (fL sp.id (s0::s1::sp.fv)) a h x.2).h.put m (some (.marr d ks vs lm)))]else A.X
  |_=>A.X)else A.X
 |_=>A.X
def We(rec:dw)(A:Alg R)(n0:Nat)(k:Ex->Fr->Heap->R)(sp:LSpec)(a:Fr)(h:Heap)(mc:MC)(mo:MO)(m:Nat)(b:lW)(o:aaO):R:=match b,o with
 |some (.mrg it' d ks vs lm),[o]=>bif Nat.beq it' mo.it then(match(Hh sp mo.it m o.blk lm).exits with
  | [x]=>JK rec A n0 k (Hh sp mo.it m o.blk lm) a h mc mo m o.blk d ks vs lm x
  |_=>A.X)else A.X
 |_,_=>A.X
def Tx(rec:dw)(A:Alg R)(n0:Nat)(k:Ex->Fr->Heap->R)(sp:LSpec)(a:Fr)(h:Heap)(mc:MC)(mo:Option MO):R:=match mo with
 |some mo=>(match h.get mo.it with
  |some (.mit m)=>We rec A n0 k sp a h mc mo m (h.get m) sp.owns
  |_=>A.X)
 |none=>A.X
def Dr(rec:dw)(A:Alg R)(n0:Nat)(k:Ex->Fr->Heap->R)(sp:LSpec)(a:Fr)(h:Heap)(mc:Option MC):R:=match mc with
 |some mc=>Tx rec A n0 k sp a h mc (KI mc (df sp a h).a)
 |none=>A.X
def OC(rec:dw)(A:Alg R)(c:Code)(n0:Nat)(k:Ex->Fr->Heap->R)(sp:LSpec)(p:Fr×Heap):R:=bif sp.mapr then Dr rec A n0 k sp p.1 p.2 (Cp c)else LV rec A c n0 k sp p.1 p.2
def Ua(rec:dw)(A:Alg R)(c:Code)(a:Fr)(h:Heap)(k:Ex->Fr->Heap->R)(sp:LSpec):R:=
 bif tC a then needA A (eJ sp.owns a h).1 (OC rec A c h.next k sp (ix sp (eJ sp.owns a h).2 (h.upto (Nat.add h.next sp.owns.length))))else A.X
def dJ3(rec:dw)(A:Alg R)(c:Code)(a:Fr)(h:Heap)(k:Ex->Fr->Heap->R)(sp:Option LSpec):R:=match sp with
 |some sp=>Ua rec A c a h k sp
 |none=>rec R A (.code c a h (e25 rec A c k))
def dJ4(rec:dw)(A:Alg R)(ops:aaz)(a:Fr)(h:Heap)(k:Ex->Fr->Heap->R)(p:Option aaH):R:=match p with
 |some l=>rec R A (.dops ops l [] a h (Gm a.ro k))
 |none=>A.X
def dl6(rec:dw)(A:Alg R)(ops:aaz)(draw:Bool)(a:Fr)(h:Heap)(k:Ex->Fr->Heap->R):R:=
 bif draw then dJ4 rec A ops a h k (Ic ops)else rec R A (.ops ops ops a h (Gm a.ro k))
def Kf(rec:dw)(A:Alg R)(a:Fr)(k:Ex->Fr->Heap->R)(h:Heap)(pend:aa9):R:=match pend with
 |none=>k .norm a h
 |some c=>rec R A (.code c a h k)
def dJ5(rec:dw)(A:Alg R)(a:Fr)(k:Ex->Fr->Heap->R)(h:Heap)(pend:aa9)(st:LoopState):R:=match st with
 | .busy=>A.X
 | .ready=>Kf rec A a k h pend
 | .done=>Kf rec A a k h pend
 | .exhausted=>Kf rec A a k h pend
def Wx(rec:dw)(A:Alg R)(l:Nat)(a:Fr)(k:Ex->Fr->Heap->R)(_:AV)(h:Heap):R:=match h.get l with
 |some (.loop st pend fn tm nt ps assign body d)=>bif Nat.ble h.wm l then dJ5 rec A a k (h.put l (some (.loop .exhausted pend fn tm nt ps assign body d))) pend st else A.X
 |_=>A.X
def cm7(rec:dw)(A:Alg R)(l:Nat)(a:Fr)(h:Heap)(k:Ex->Fr->Heap->R)(r:Res):R:=match r with
 | .enter g args=>rec R A (.call g args h (Wx rec A l a k))
 |_=>A.X
def Lf(h:Heap)(ro:mB):Option (Nat×Heap×aaF):=match ro with
 |none=>some (h.next,h.new (.defd false),[ADef.coll h.next])
 |some l=>match h.get l with
  |some (.loop _ _ _ _ _ _ _ _ d)=>some (d,h,[])
  |_=>none
def Vs(E:Env)(rec:dw)(A:Alg R)(ps:Array Tmp)(assign body:Code)(a:Fr)(k:Ex->Fr->Heap->R)(x:Option (Nat×Heap×aaF))(f:EX):R:=match x with
 |some (d,h,mark)=>match f with
  |some fv=>cm7 rec A h.next (a.mark mark) (h.new (.loop .ready none a.fn a.tm a.nt ps assign body d)) k
   (Kg E fv [.yield h.next] (h.new (.loop .ready none a.fn a.tm a.nt ps assign body d)))
  |none=>A.X
 |none=>A.X
def dJ6(E:Env)(rec:dw)(A:Alg R)(c:Code)(a:Fr)(h:Heap)(k:Ex->Fr->Heap->R):R:=match c with
 | .skip=>k .norm a h
 | .label _=>k .norm a h
 | .ret=>k .ret a h
 | .exit id=>k (.exit id) a h
 | .seq x y=>rec R A (.code x a h (ed1 rec A y k))
 | .cond c x y=>Qj rec A x y a h k (a.ev c)
 | .block id b=>rec R A (.code b a h (IY id k))
 | .loop b=>rec R A (.loop b a h k)
 | .scope b=>rec R A (.code b a h k)
 | .region _ ops draw=>dl6 rec A ops.toList draw a h k
 | .rangeFunc f ps assign body=>Vs E rec A ps assign body a k (Lf h a.ro) (a.ev f)
 |_=>A.X
def uD:Ex->aa9
 | .norm=>none
 | .ret=>some .ret
 | .exit id=>some (.exit id)
def Qs:aa9->LoopState
 |none=> .ready
 |some _=> .done
def cm9(A:Alg R)(l:Nat)(k:AV->Heap->R)(e:Ex)(a:Fr)(h:Heap):R:=match a.ds with
 | []=>match h.get l with
   |some (.loop _ _ fn tm nt ps as body d)=>k (.bool (uD e).isNone) (h.put l (some (.loop (Qs (uD e)) (uD e) fn tm nt ps as body d)))
   |_=>A.X
 |_=>A.X
def RO(rec:dw)(A:Alg R)(l:Nat)(body:Code)(k:AV->Heap->R)(e:Ex)(a:Fr)(h:Heap):R:=match e with
 | .norm=>match h.get l with
   |some (.loop .ready pend fn tm nt ps as b d)=>rec R A (.code body a (h.put l (some (.loop .busy pend fn tm nt ps as b d))) (cm9 A l k))
   |_=>A.X
 |_=>A.X
def AO:List Tmp->zw->Nat->TF->TF
 |p::ps,v::vs,nt,t=>AO ps vs nt (bif Nat.blt p nt then t.set p v else t)
 |_,_,_,t=>t
def Rq(rec:dw)(A:Alg R)(l:Nat)(args:zw)(h:Heap)(k:AV->Heap->R)(b:lW):R:=match b with
 |some (.loop _ _ fn tm nt ps assign body _)=>bif Nat.beq args.length ps.size&&Nat.ble h.wm l then
  rec R A (.code assign ⟨AO ps.toList args nt tm,nt,[],fn,[],some l⟩ h (RO rec A l body k))else A.X
 |_=>A.X
def Jc(rec:dw)(A:Alg R)(h:Heap)(k:AV->Heap->R)(r:Res):R:=match r with
 | .val v h=>k v h
 | .N e v h=>needA A e (k v h)
 | .cho e v l h=>A.J e (k v h) (A.amb (l.map λv=>(v,h)) λx=>k x.1 x.2)
 | .enter f args=>rec R A (.call f args h k)
 | .choice l=>A.amb l λx=>k x.1 x.2
 | .yield l args=>Rq rec A l args h k (h.get l)
 | .defer _=>A.X
 | .X=>A.X
def Zu(rec:dw)(A:Alg R)(all rest:aaz)(dst:aaK)(a:Fr)(k:Fr->Heap->R)(v:AV)(h:Heap):R:=rec R A (.ops all rest (a.put dst v) h k)
def cn1(rec:dw)(A:Alg R)(all rest:aaz)(a:Fr)(h:Heap)(k:Fr->Heap->R)(e:aaD):R:=match e with
 |some e=>A.J e (rec R A (.ops all rest (a.cond (e,true)) h k)) (rec R A (.ops all rest (a.cond (e,false)) h k))
 |none=>A.X
def UL(rec:dw)(A:Alg R)(all rest:aaz)(dst:aaK)(a:Fr)(h:Heap)(k:Fr->Heap->R)(r:Res):R:=match r with
 | .defer d=>match a.ro with
   |none=>rec R A (.ops all rest ((a.mark [d]).put dst .undef) h k)
   |some _=>A.X
 |r=>Jc rec A h (Zu rec A all rest dst a k) r
def dJ7(E:Env)(rec:dw)(A:Alg R)(all rest:aaz)(o:Oper)(a:Fr)(h:Heap)(k:Fr->Heap->R)(w:S8):R:=match w with
 |some true=>UL rec A all rest o.dst a h k (eQ E a.ev o h)
 |some false=>rec R A (.ops all rest (a.put o.dst .undef) h k)
 |none=>cn1 rec A all (o::rest) a h k (wx all a o)
def e27(E:Env)(rec:dw)(A:Alg R)(all rest:aaz)(a:Fr)(h:Heap)(k:Fr->Heap->R):R:=match rest with
 | []=>k a h
 |o::rest=>dJ7 E rec A all rest o a h k (eE all a o)
def ed2(E:Env)(rec:dw)(A:Alg R)(all:aaz)(rest:aaH)(pend:aaL)(dst:aaK)(a:Fr)(k:Fr->Heap->R)(v:AV)(h:Heap):R:=
 bif ue E (a.put dst v) h pend then rec R A (.dops all rest pend (a.put dst v) h k)else A.X
def TU(E:Env)(rec:dw)(A:Alg R)(all:aaz)(x:PO)(rest:aaH)(pend:aaL)(a:Fr)(k:Fr->Heap->R)(r:Res):R:=match r with
 | .val v h=>bif !(gk x.o)||ue E (a.put x.o.dst v) h pend then rec R A (.dops all rest (⟨x.i,x.o,v,none⟩::pend) (a.put x.o.dst v) h k)else A.X
 | .N e v h=>bif !(gk x.o)then needA A e (rec R A (.dops all rest (⟨x.i,x.o,v,some e⟩::pend) (a.put x.o.dst v) h k))else A.X
 |_=>A.X
def PV(rec:dw)(A:Alg R)(all:aaz)(rest:aaH)(pend:aaL)(a:Fr)(h:Heap)(k:Fr->Heap->R)(e:aaD):R:=match e with
 |some e=>A.J e (rec R A (.dops all rest pend (a.cond (e,true)) h k)) (rec R A (.dops all rest pend (a.cond (e,false)) h k))
 |none=>A.X
def Bj(E:Env)(rec:dw)(A:Alg R)(all:aaz)(x:PO)(rest:aaH)(pend:aaL)(a:Fr)(h:Heap)(k:Fr->Heap->R)(w:S8):R:=match w with
 |some true=>bif x.fl then TU E rec A all x rest pend a k (eQ E a.ev x.o h)
  else Jc rec A h (ed2 E rec A all rest (pend.filter λp=> !(x.m.testBit p.i)) x.o.dst a k) (eQ E a.ev x.o h)
 |some false=>rec R A (.dops all rest pend (a.put x.o.dst .undef) h k)
 |none=>PV rec A all (x::rest) pend a h k (wx all a x.o)
def dJ8(E:Env)(rec:dw)(A:Alg R)(all:aaz)(rest:aaH)(pend:aaL)(a:Fr)(h:Heap)(k:Fr->Heap->R):R:=match rest with
 | []=>k a h
 |x::rest=>Bj E rec A all x rest pend a h k (eE all a x.o)
def RP(v:AV)(h:Heap):aaq:=some (v,h)
def vD(wm:Nat)(o:aaP)(v:AV)(h:Heap):Bool:=dI1 (wJ wm h v) o
def To(k:AV->Heap->R)(x:AV×Heap):R:=k x.1 x.2
def ZP(rec:dw)(A:Alg R)(f:FuncId)(args:zw)(h:Heap)(k:AV->Heap->R)(x:aaP):R:=match x with
 |none=>A.X
 |some (b,l)=>bif rec Bool oU (.body f args h.raise (vD h.next (some (b,l))))then To k (Dm b l h)else A.X
def SP(rec:dw)(A:Alg R)(f:FuncId)(args:zw)(h:Heap)(k:AV->Heap->R)(x:aaq):R:=match x with
 |none=>A.X
 |some (v0,h0)=>ZP rec A f args h k (wJ h.next h0 v0)
structure Cap2 where
 b:Nat
 full:zw
 wide:zw
 h:Heap
def capH(h:Heap)(b e:Nat)(cs:zw):Heap:=((h.put b none).raise).new (.cells e 0 cs)
def ID(args:zw)(h:Heap):Option Cap2:=match args with
 | .us b 0 len sz:: .int k (.ofNat i)::rest=>match h.get b with
   |some (.cells e 0 cs)=>bif Nat.ble h.wm b&&Nat.beq cs.length (len*sz)&&Nat.blt i len&&Nat.blt 0 sz then
    some ⟨b,.sl b 0 len len:: .int k (.ofNat i)::rest,.us h.next 0 len sz:: .int k (.ofNat i)::rest,capH h b e (cs++dx sz [.any])⟩
    else none
   |_=>none
 |_=>none
def WB(rec:dw)(A:Alg R)(f:FuncId)(h:Heap)(k:AV->Heap->R)(c:Cap2)(x:aaP):R:=match x with
 |none=>A.X
 |some (b,l)=>bif rec Bool oU (.body f c.full h.raise (vD h.next (some (b,l))))&&rec Bool oU (.body f c.wide c.h (vD h.next (some (b,l))))then
  To k (Dm b l (h.put c.b none))else A.X
def XC(rec:dw)(A:Alg R)(f:FuncId)(h:Heap)(k:AV->Heap->R)(c:Cap2)(x:aaq):R:=match x with
 |none=>A.X
 |some (v0,h0)=>WB rec A f h k c (wJ h.next h0 v0)
def QI(rec:dw)(A:Alg R)(f:FuncId)(args:zw)(h:Heap)(k:AV->Heap->R)(c:Option Cap2):R:=match c with
 |none=>rec R A (.body f args h k)
 |some c=>XC rec A f h k c (rec aaq QA (.body f c.full h.raise RP))
def dJ9(E:Env)(rec:dw)(A:Alg R)(f:FuncId)(args:zw)(h:Heap)(k:AV->Heap->R)(x:Res):R:=match x with
 | .val v h=>k v h
 | .N e v h=>needA A e (k v h)
 |_=>bif E.amb f then SP rec A f args h k (rec aaq QA (.body f args h.raise RP))else
  bif E.caps f then QI rec A f args h k (ID args h)else rec R A (.body f args h k)
def dK0(E:Env)(rec:dw)(A:Alg R)(f:FuncId)(args:zw)(h:Heap)(k:AV->Heap->R):R:=dJ9 E rec A f args h k (E.hook f args h)
def Bp(A:Alg R)(h:Heap)(k:AV->Heap->R)(vs:Option zw):R:=match vs with
 |some vs=>k (OA vs) h
 |none=>A.X
def da5(P:yJ)(rec:dw)(A:Alg R)(rs:aaT)(k:AV->Heap->R)(e:Ex)(a:Fr)(h:Heap):R:=match e with
 | .exit _=>A.X
 |_=>match a.ds with
  | []=>Bp A h k (oF P a h rs)
  |ds=>rec R A (.leave rs a ds h k)
def cn4(P:yJ)(A:Alg R)(rs:aaT)(k:AV->Heap->R)(e:Ex)(a:Fr)(h:Heap):R:=match e with
 | .exit _=>A.X
 |_=>match a.ds with
  | []=>Bp A h k (oF P a h rs)
  |_=>A.X
def UR(P:yJ)(rec:dw)(A:Alg R)(f:FuncId)(args:zw)(h:Heap)(k:AV->Heap->R)(fn:Option Func):R:=match fn with
 |none=>A.X
 |some fn=>match fn.body with
  |none=>A.X
  |some c=>bif Nat.ble (Nat.max fn.ntmps args.length) 256 then rec R A (.code c ⟨qN args 0 TF.empty,Nat.max fn.ntmps args.length,[],f,[],none⟩ h (da5 P rec A fn.results.toList k))else A.X
def VK(P:yJ)(rec:dw)(A:Alg R)(f:FuncId)(args:zw)(h:Heap)(k:AV->Heap->R)(fn:Option Func):R:=match fn with
 |none=>A.X
 |some fn=>match fn.body with
  |none=>A.X
  |some c=>bif Nat.ble (Nat.max fn.ntmps args.length) 256 then rec R A (.code c ⟨qN args 0 TF.empty,Nat.max fn.ntmps args.length,[],f,[],none⟩ h (cn4 P A fn.results.toList k))else A.X
def e29(rec:dw)(A:Alg R)(rs:aaT)(a:Fr)(ds:aaF)(k:AV->Heap->R)(_:AV)(h:Heap):R:=rec R A (.leave rs a ds h k)
def Qt(rec:dw)(A:Alg R)(rs:aaT)(a:Fr)(ds:aaF)(h:Heap)(k:AV->Heap->R)(r:Res):R:=match r with
 | .enter f args=>rec R A (.dbody f args h (e29 rec A rs a ds k))
 |_=>A.X
def Vo(rec:dw)(A:Alg R)(rs:aaT)(a:Fr)(ds:aaF)(b:Nat)(h:Heap)(k:AV->Heap->R)(x:lW):R:=match x with
 |some (.defd false)=>bif Nat.ble h.wm b then rec R A (.leave rs a ds (h.put b (some (.defd true))) k)else A.X
 |_=>A.X
def dm2(E:Env)(rec:dw)(A:Alg R)(rs:aaT)(a:Fr)(ds:aaF)(h:Heap)(k:AV->Heap->R):R:=match ds with
 | []=>Bp A h k (oF E.P a h rs)
 | .coll b::ds=>Vo rec A rs a ds b h k (h.get b)
 | .fn f cap args::ds=>Qt rec A rs a ds h k (BI E f (args++cap) h)
def dK1(E:Env)(rec:dw)(A:Alg R)(f:FuncId)(args:zw)(h:Heap)(k:AV->Heap->R):R:=UR E.P rec A f args h k (E.P.funcs[f]?)
def dK2(E:Env)(rec:dw)(A:Alg R)(t:Task R):R:=match t with
 | .code c a h k=>dJ6 E rec A c a h k
 | .loop c a h k=>dJ3 rec A c a h k (E.lspec a.fn (AA c) a h)
 | .ops all rest a h k=>e27 E rec A all rest a h k
 | .dops all rest pend a h k=>dJ8 E rec A all rest pend a h k
 | .call f args h k=>dK0 E rec A f args h k
 | .body f args h k=>dK1 E rec A f args h k
 | .dbody f args h k=>VK E.P rec A f args h k (E.P.funcs[f]?)
 | .leave rs a ds h k=>dm2 E rec A rs a ds h k
end
def ei6(R:Type)(A:Alg R)(_:Task R):R:=A.X
def evS(E:Env)(_:Nat)(rec:dw)(R:Type)(A:Alg R)(t:Task R):R:=dK2 E rec A t
def ev(E:Env)(n:Nat):dw:=Nat.rec (motive:=λ_=>dw) ei6 (evS E) n
end
def BC{a b c d:Prop}(f:a->c)(g:b->d)(h:a\/b):c\/d:=by grind
theorem gW{a b:Nat}(h:a<b):Nat.blt a b=true:=by simpa using h
theorem iv{a b:Nat}(h: ¬a<b):Nat.blt a b=false:=by
 cases e:Nat.blt a b with
 |false=>rfl
 |true=>(simp at*;omega)
theorem Y8{a b:Nat}:Nat.blt a b=true↔a<b:=by simp
theorem X6{a b:Nat}:Nat.ble a b=true↔a<=b:=by simp
theorem X0{a b:Nat}:Nat.beq a b=true↔a=b:=by simp
def Bb(i j:Nat)(hi:i<16)(hj:j<16)(α:Type)(x:α)(t:P16 α):
 (sV i).g α ((sV j).s α x t)=if i=j then x else(sV i).g α t:=by
 have hi':i=0\/i=1\/i=2\/i=3\/i=4\/i=5\/i=6\/i=7\/i=8\/i=9\/i=10\/i=11\/i=12\/i=13\/i=14\/i=15:=by omega
 have hj':j=0\/j=1\/j=2\/j=3\/j=4\/j=5\/j=6\/j=7\/j=8\/j=9\/j=10\/j=11\/j=12\/j=13\/j=14\/j=15:=by omega
 rcases hi' with rfl|rfl|rfl|rfl|rfl|rfl|rfl|rfl|rfl|rfl|rfl|rfl|rfl|rfl|rfl|rfl<;>
 rcases hj' with rfl|rfl|rfl|rfl|rfl|rfl|rfl|rfl|rfl|rfl|rfl|rfl|rfl|rfl|rfl|rfl<;>rfl
theorem bT5(i:Nat)(hi:i<16)(α:Type)(x:α):(sV i).g α (P16.const x)=x:=by
 have hi':i=0\/i=1\/i=2\/i=3\/i=4\/i=5\/i=6\/i=7\/i=8\/i=9\/i=10\/i=11\/i=12\/i=13\/i=14\/i=15:=by omega
 rcases hi' with rfl|rfl|rfl|rfl|rfl|rfl|rfl|rfl|rfl|rfl|rfl|rfl|rfl|rfl|rfl|rfl<;>rfl
def TF.get_empty(n:Nat):TF.get TF.empty n= .undef:=by unfold TF.get DF;by_cases h:n<256;rw[gW h];simp[cond_true,Vb,TF.empty,Xi];grind[bT5];rw[iv h];rfl
def TF.get_set(t:TF)(m n:Nat)(v:AV)(hm:m<256):(TF.set t m v).get n=if n=m then v else t.get n:=by
 unfold TF.get TF.set DF;rw[gW hm];by_cases h:n<256;rw[gW h];simp[cond_true,Vb];rw[Bb _ _ (by omega) (by omega)];by_cases h1:n/16=m/16;rw[i6 h1,Bb _ _ (by omega) (by omega)]
 (split<;>grind);grind;rw[iv h];simp[cond_false,ec0];grind
def dK3(b b':Nat)(x:lW)(t:TH):(uI b').g ((uI b).s x t)=if b'=b then(if b<65536 then x else none)else(uI b').g t:=by
 unfold uI;by_cases h:b<65536;rw[show(!(Nat.blt b 65536))=false by simp_all,i6 h];by_cases h':b'<65536;rw[show(!(Nat.blt b' 65536))=false by rw[gW h'];rfl];simp[cond_false,Tn];rw[Bb _ _ (by omega) (by omega)];by_cases h1:b'/4096=b/4096;rw[i6 h1,Bb _ _ (by omega) (by omega)];by_cases h2:b'/256 % 16=b/256 % 16;rw[i6 h2,Bb _ _ (by omega) (by omega)];by_cases h3:b'/16 % 16=b/16 % 16;rw[i6 h3,Bb _ _ (by omega) (by omega)];by_cases h4:b' % 16=b % 16;rw[i6 h4,i6 (by omega)];rw[b9 h4,b9 (by omega),h1,h2,h3];rw[b9 h3,b9 (by omega),h1,h2]
 (split<;>grind);grind;rw[show(!(Nat.blt b' 65536))=true by rw[iv h'];rfl];simp[cond_true,JY];grind;rw[show(!(Nat.blt b 65536))=true by rw[iv h];rfl,b9 h];simp only[cond_true,JY];by_cases e:b'=b;subst e;rw[show(!(Nat.blt b' 65536))=true by rw[iv h];rfl];simp;grind
def Heap.get_put(h:Heap)(b b':Nat)(x:lW):(h.put b x).get b'=if b'=b then(if b<65536 then x else none)else h.get b':=by exact dK3 b b' x _
def Heap.get_new(h:Heap)(b':Nat)(x:Blk):(h.new x).get b'=if b'=h.next then(if h.next<65536 then some x else none)else h.get b':=by exact dK3 _ b' (some x) _
@[simp]theorem Heap.next_put(h:Heap)(b:Nat)(x:lW):(h.put b x).next=h.next:=rfl
@[simp]def Heap.wm_put(h:Heap)(b:Nat)(x:lW):(h.put b x).wm=h.wm:=rfl
@[simp]theorem Heap.next_new(h:Heap)(x:Blk):(h.new x).next=h.next+1:=rfl
@[simp]def Heap.wm_new(h:Heap)(x:Blk):(h.new x).wm=h.wm:=rfl
def Heap.get_lim(h:Heap)(b:Nat)(x:Blk)(e:h.get b=some x):b<65536:=by grind[Heap.get,eK,uI,Nat.blt,iv,JY]
def Heap.get_empty(b:Nat):Heap.empty.get b=none:=by simp only[Heap.get,Heap.empty,eK,uI];by_cases hb:b<65536;rw[show(!(Nat.blt b 65536))=false by rw[gW hb];rfl];simp[cond_false,Tn,Lp,NF,dF7];grind[bT5];rw[show(!(Nat.blt b 65536))=true by grind[iv]];rfl
structure Loc where
 blk:Nat
 off:Nat
 ext:Nat
abbrev aa7:= Option Loc
abbrev cj:=Nat->aa7
structure Opq where
 v:Nat->Zl
 w:Nat->Val
 f:Nat->U7->Val
 one: ∀n,(v n).oneCell'=true
 fix:zX->Bool
 gh:Nat->aaY
def kI(x y:zR):Bool:=iP x y
def cq(op:BinOp)(k:IntKind)(x y:Int):Int:=match op with
 | .add=>k.wrap (x+y)
 | .sub=>k.wrap (x-y)
 | .mul=>k.wrap (x*y)
 | .quo=>k.wrap (x.tdiv y)
 | .rem=>x.tmod y
 | .shl=>k.wrap (x*2^(min y.toNat k.bits))
 | .shr=>x.fdiv (2^(min y.toNat k.bits))
 | .and=>k.wrap ((BitVec.ofInt k.bits x&&&BitVec.ofInt k.bits y).toNat)
 | .or=>k.wrap ((BitVec.ofInt k.bits x|||BitVec.ofInt k.bits y).toNat)
 | .xor=>k.wrap ((BitVec.ofInt k.bits x^^^BitVec.ofInt k.bits y).toNat)
 | .andNot=>k.wrap ((BitVec.ofInt k.bits x&&& ~~~(BitVec.ofInt k.bits y)).toNat)
 |_=>0
def gr(op:BinOp)(x y:Int):Bool:=match op with
 | .eql=>decide (x=y)
 | .neq=> !decide (x=y)
 | .lss=>decide (x<y)
 | .leq=>decide (x<=y)
 | .gtr=>decide (y<x)
 | .geq=>decide (y<=x)
 |_=>false
def nZ(op:BinOp)(x y:zR):Bool:=match op with
 | .eql=>decide (x=y)
 | .neq=> !decide (x=y)
 | .lss=>kI x y
 | .leq=> !kI y x
 | .gtr=>kI y x
 | .geq=> !kI x y
 |_=>false
def unI(op:UnOp)(k:IntKind)(x:Int):Int:=match op with
 | .neg=>k.wrap (0-x)
 | .xor=>k.wrap ((BitVec.ofInt k.bits (if k.signed then-1 else k.max)^^^BitVec.ofInt k.bits x).toNat)
 |_=>0
def Y3(l:U7)(i:Int)(j:Int):Val:=(l.getD i.toNat (.A [])).L.getD j.toNat default
def Kv(c:CT)(x y:Val):Bool:=match c with
 | .int _=>decide (x.I=y.I)
 | .str=>decide (x.toS=y.toS)
 | .bool=>x.Z==y.Z
def yz(r k:Val):wD->Nat->Bool
 | [],_=>true
 |c::cs,j=>Kv c (k.L.getD j default) (r.L.getD j default)&&yz r k cs (j+1)
def eF(ks:wD)(r k:Val):Bool:=yz r k ks 0
def cD:Prim->U7->Val
 | .ar op k,[a,b]=> .D (cq op k a.I b.I)
 | .cmp op,[a,b]=> .B (gr op a.I b.I)
 | .scmp op,[a,b]=> .B (nZ op a.toS b.toS)
 | .cat,[a,b]=> .vs (a.toS++b.toS)
 | .not,[a]=> .B (!a.Z)
 | .and,[a,b]=> .B (a.Z&&b.Z)
 | .or,[a,b]=> .B (a.Z||b.Z)
 | .beq,[a,b]=> .B (a.Z==b.Z)
 | .J,[a,b,c]=>bif a.Z then b else c
 | .un op k,[a]=> .D (unI op k a.I)
 | .conv k,[a]=> .D (k.wrap a.I)
 | .slen,[a]=> .D a.toS.length
 | .sat,[a,i]=> .D (a.toS.getD i.I.toNat 0).toNat
 | .ssub,[a,i,j]=> .vs ((a.toS.drop i.I.toNat).take (j.I-i.I).toNat)
 | .Y,[a]=> .D a.L.length
 | .G,[a,i,j]=>Y3 a.L i.I j.I
 | .lset,[a,i,r]=> .A (a.L.set i.I.toNat r)
 | .lcat,[a,b]=> .A (a.L++b.L)
 | .lsub,[a,i,j]=> .A ((a.L.drop i.I.toNat).take (j.I-i.I).toNat)
 | .row,l=> .A l
 | .imin,[a,b]=> .D (min a.I b.I)
 | .iadd,[a,b]=> .D (a.I+b.I)
 | .isub,[a,b]=> .D (a.I-b.I)
 | .imax,[a,b]=> .D (max a.I b.I)
 | .lrep,[n,r]=> .A (List.replicate n.I.toNat r)
 | .scnt,[a,c]=> .D (Bv c.I.toNat a.toS:Nat)
 | .sidx,[a,c]=> .D (Nw c.I.toNat a.toS)
 | .sbytes,[a]=> .A (a.toS.map λb=> .A [.D b.toNat])
 | .mfind ks,[l,k]=> .D (l.L.findIdx λr=>eF ks r k:Nat)
 | .mdel ks,[l,k]=> .A (l.L.eraseIdx (l.L.findIdx λr=>eF ks r k))
 | .bok,[a]=> .B (a.L.all λr=>decide (0<=(r.L.getD 0 default).I)&&decide ((r.L.getD 0 default).I<256))
 | .bstr,[a]=> .vs (a.L.map λr=>UInt8.ofNat (r.L.getD 0 default).I.toNat)
 |_,_=> .B false
mutual
def bZ(I:Opq):SX->Val
 | .C n=> .D n
 | .cs l=> .vs l
 | .cb x=> .B x
 | .V n=>I.w n
 | .O p l=>cD p (X4 I l)
 | .Q f l=>I.f f (X4 I l)
def X4(I:Opq):GF->U7
 | []=>[]
 |a::r=>bZ I a::X4 I r
end
def dI(I:Opq)(e:SX):Int:=(bZ I e).I
def dS(I:Opq)(e:SX):zR:=(bZ I e).toS
def dB(I:Opq)(e:SX):Bool:=(bZ I e).Z
def dL(I:Opq)(e:SX):U7:=(bZ I e).L
def Opq.U(I:Opq)(v0:Nat)(l:U7):Opq:=⟨I.v,λn=>if v0<=n then l.getD (n-v0) (.B false)else I.w n,I.f,I.one,I.fix,I.gh⟩
inductive Iter (step:U7->Option (Nat×U7)):U7->Nat->U7->Prop where
 |out {vs p:U7} {i:Nat}:step vs=some (i+1,p)->Iter step vs i p
 |more {vs vs' p:U7} {i:Nat}:step vs=some (0,vs')->Iter step vs' i p->Iter step vs i p
def Iter.uniq{step:U7->Option (Nat×U7)}{vs:U7}{i j:Nat}{p q:U7}(a:Iter step vs i p)(b:Iter step vs j q):i=j/\p=q:=by
 induction a with
 |out h=>
  cases b with
  |out h'=>grind
  |more h' _=>grind
 |more h _ ih=>
  cases b with
  |out h'=>grind
  |more h' k=>grind
open Classical in
def Y9(step:U7->Option (Nat×U7))(vs:U7):Option (Nat×U7):=
 if h: ∃r:Nat×U7,Iter step vs r.1 r.2 then some (Classical.choose h)else none
theorem qV{step:U7->Option (Nat×U7)}{vs:U7}{i:Nat}{p:U7}:Y9 step vs=some (i,p)↔Iter step vs i p:=by
 unfold Y9;constructor
 ·(split<;>grind)
 intro h;have hh: ∃r:Nat×U7,Iter step vs r.1 r.2:=⟨(i,p),h⟩;have:=(Classical.choose_spec hh).uniq h;grind
def cx(r:Nat×U7):Val:= .A [.A [.D r.1],.A r.2]
def gd(step:U7->Option (Nat×U7)):uq->U7->Option U7
 | [],s=>some s
 |i::r,[a,b]=>match step [a,b,.D i]with
  |some (0,s')=>gd step r s'
  |_=>none
 |_::_,_=>none
def tK(step:U7->Option (Nat×U7))(n:Nat)(s:U7)(D:U7):Prop:=
 gd step (List.range n) s=some [.D D.length,.A D]/\ ∀p:uq,p.Perm (List.range n)-> ∃D':U7,gd step p s=some [.D D'.length,.A D']/\D'.Perm D
open Classical in
mutual
def W6:VT->Opq->Option (Nat×U7)
 | .X,_=>none
 | .J e a b,I=>if dB I e then W6 a I else W6 b I
 | .N e x,I=>if dB I e then W6 x I else none
 | .W i out,I=>some (i,X4 I out)
 | .loop hd body ks,I=>match Y9 (λvs=>W6 body (I.U hd.v0 vs)) (X4 I hd.s0)with
   |some r=>if I.f hd.id (X4 I (hd.s0++hd.fv))=cx r then kE ks r.1 I else none
   |none=>none
 | .both a b,I=>if W6 a I=W6 b I then W6 a I else none
 | .mloop hd l body ks,I=>if∃D,tK (λvs=>W6 body (I.U hd.v0 vs)) (dL I l).length (X4 I hd.s0) D/\I.f hd.id (X4 I (hd.s0++hd.fv))=cx (0,[.D D.length,.A D])then kE ks 0 I else none
def kE:abd->Nat->Opq->Option (Nat×U7)
 | [],_,_=>none
 |k::_,0,I=>W6 k I
 |_::r,n+1,I=>kE r n I
end
def cn5: ∀{a b:zR},KH a b=true->a=b
 | [],[],_=>rfl
 |a::x,b::y,h=>by
  simp only[KH]at h;cases hc:Nat.beq a.toNat b.toNat with
  |false=>grind
  |true=>
   rw[hc]at h;have:a=b:=UInt8.toNat_inj.1 (by simp_all);rw[this,cn5 h]
 | [],_::_,h=>by cases h
 |_::_,[],h=>by cases h
def dm4: ∀{a b:Int},Mt a b=true->a=b
 | .ofNat a,.ofNat b,h=>by simp_all[Mt]
 | .negSucc a,.negSucc b,h=>by simp_all[Mt]
 | .ofNat _,.negSucc _,h=>by cases h
 | .negSucc _,.ofNat _,h=>by cases h
mutual
theorem SX.beq_eq: ∀(a b:SX),SX.beq a b=true->a=b
 | .C a,b,h=>by cases b<;>simp[SX.beq]at h;rw[dm4 h]
 | .cs a,b,h=>by cases b<;>simp[SX.beq]at h;rw[cn5 h]
 | .cb a,b,h=>by cases b<;>simp[SX.beq]at h;rw[h]
 | .V a,b,h=>by cases b<;>simp[SX.beq]at h;rw[h]
 | .O p a,b,h=>by cases b<;>simp[SX.beq]at h;obtain⟨rfl,h⟩:=h;rw[SX.beqs_eq a _ h]
 | .Q p a,b,h=>by cases b<;>simp[SX.beq]at h;obtain⟨rfl,h⟩:=h;rw[SX.beqs_eq a _ h]
theorem SX.beqs_eq: ∀(a b:GF),SX.beqs a b=true->a=b
 | [],[],_=>rfl
 | [],_::_,h=>by simp[SX.beqs]at h
 |_::_,[],h=>by simp[SX.beqs]at h
 |a::x,b::y,h=>by simp[SX.beqs,j8]at h;rw[SX.beq_eq a b h.1,SX.beqs_eq x y h.2]
end
mutual
def VR(O:cj)(I:Opq):AV->Zl->Prop
 | .bool b,v=>v= .bool b
 | .int k n,v=>v= .int k n
 | .str s,v=>v= .string ⟨s.toArray⟩
 | .nilp,v=>v= .pointer none
 | .ptr b o,v=> ∃L,O b=some L/\v= .pointer (some ⟨L.blk,L.off+o,none⟩)
 | .glob g,v=>v= .pointer (some ⟨g,0,none⟩)
 | .N,v=>v= .slice none 0 0
 | .sl b o len cap,v=> ∃L,O b=some L/\v= .slice (some ⟨L.blk,L.off+o,none⟩) len cap
 | .us b o len sz,v=> ∃L cap,O b=some L/\o+cap*sz=L.ext/\v= .slice (some ⟨L.blk,L.off+o,none⟩) len cap
 | .es b o sz,v=> ∃L a cap,O b=some L/\v= .slice (some a) 0 cap/\(cap=0\/a=⟨L.blk,L.off+o,none⟩/\o+cap*sz=L.ext)
 | .es0,v=> ∃a,v= .slice (some a) 0 0
 | .nilm,v=>v= .map none
 | .map r,v=> ∃L,O r=some L/\v= .map (some L.blk)
 | .nilf,v=>v= .nilFunc
 | .func fn a b,v=>(∀l,fn≠ .yield l)/\ ∃x y,v= .func fn x y/\co O I a x.toList/\co O I b y.toList
 | .yield l,v=> ∃L,O l=some L/\v= .func (.yield L.blk) #[] #[]
 | .nili,v=>v= .nilIface
 | .iface t x,v=> ∃y,v= .iface t y/\VR O I x y
 | .agg cs,v=> ∃xs,v= .agg xs/\co O I cs xs.toList
 | .V cs,v=> ∃xs,v= .tuple xs/\co O I cs xs.toList
 | .opq n,v=>v=I.v n
 | .Z k e,v=>v= .int k (dI I e)
 | .K e,v=>v= .string ⟨(dS I e).toArray⟩
 | .H e,v=>v= .bool (dB I e)
 | .osl b off len sz,v=>(∃L cap a,O b=some L/\v= .slice (some a) (dI I len).toNat cap/\(dI I len).toNat<=cap/\(0<dI I len->a=⟨L.blk,L.off+(dI I off).toNat*sz,none⟩))\/ ∃a cap,v= .slice a 0 cap/\(a=none->cap=0)/\dI I len=0
 | .optr b idx j sz,v=> ∃L,O b=some L/\v= .pointer (some ⟨L.blk,L.off+(dI I idx).toNat*sz+j,none⟩)
 | .U b len sz,v=>(∃L cap,O b=some L/\cap*sz=L.ext/\v= .slice (some ⟨L.blk,L.off,none⟩) (dI I len).toNat cap/\(dI I len).toNat<=cap)\/v= .slice none 0 0/\dI I len=0
 | .atl n,v=> ∃m:Int,v= .int .i64 m/\(n:Int)<=m
 | .any,_=>True
def co(O:cj)(I:Opq):zw->List Zl->Prop
 | [],vs=>vs=[]
 |a::r,vs=> ∃v vr,vs=v::vr/\VR O I a v/\co O I r vr
end
def Le(O ac:cj):Prop:= ∀b L,O b=some L->ac b=some L
def Le.refl(O:cj):Le O O:=λ_ _ h=>h
def Le.trans{a b c:cj}(h:Le a b)(k:Le b c):Le a c:=λx L e=>k x L (h x L e)
mutual
theorem VR.mono{O ac:cj}{I:Opq}(hl:Le O ac): ∀(a:AV) (v:Zl),VR O I a v->VR ac I a v
 | .bool b,v,h=>h
 | .int k n,v,h=>h
 | .str s,v,h=>h
 | .nilp,v,h=>h
 | .ptr b o,v,h=>let ⟨L,e,x⟩:=h;⟨L,hl _ _ e,x⟩
 | .glob g,v,h=>h
 | .N,v,h=>h
 | .sl b o len cap,v,h=>let ⟨L,e,x⟩:=h;⟨L,hl _ _ e,x⟩
 | .us b o len sz,v,h=>let ⟨L,c,e,x⟩:=h;⟨L,c,hl _ _ e,x⟩
 | .es b o sz,v,h=>let ⟨L,a,c,e,x⟩:=h;⟨L,a,c,hl _ _ e,x⟩
 | .es0,v,h=>h
 | .nilm,v,h=>h
 | .map r,v,h=>let ⟨L,e,x⟩:=h;⟨L,hl _ _ e,x⟩
 | .nilf,v,h=>h
 | .func fn a b,v,h=>let ⟨n,x,y,e,p,q⟩:=h;⟨n,x,y,e,co.mono hl a _ p,co.mono hl b _ q⟩
 | .yield l,v,h=>let ⟨L,e,x⟩:=h;⟨L,hl _ _ e,x⟩
 | .nili,v,h=>h
 | .iface t x,v,h=>let ⟨y,e,p⟩:=h;⟨y,e,VR.mono hl x y p⟩
 | .agg cs,v,h=>let ⟨xs,e,p⟩:=h;⟨xs,e,co.mono hl cs _ p⟩
 | .V cs,v,h=>let ⟨xs,e,p⟩:=h;⟨xs,e,co.mono hl cs _ p⟩
 | .opq n,v,h=>h
 | .Z k n,v,h=>h
 | .K n,v,h=>h
 | .H e,v,h=>h
 | .osl b off len sz,v,h=>BC (λ⟨L,c,a,e,x⟩=>⟨L,c,a,hl _ _ e,x⟩) id h
 | .optr b idx j sz,v,h=>let ⟨L,e,x⟩:=h;⟨L,hl _ _ e,x⟩
 | .U b len sz,v,h=>BC (λ⟨L,c,e,x⟩=>⟨L,c,hl _ _ e,x⟩) id h
 | .atl n,v,h=>h
 | .any,v,h=>h
theorem co.mono{O ac:cj}{I:Opq}(hl:Le O ac): ∀(a:zw) (v:List Zl),co O I a v->co ac I a v
 | [],vs,h=>h
 |a::r,vs,h=>let ⟨v,vr,e,p,q⟩:=h;⟨v,vr,e,VR.mono hl a v p,co.mono hl r vr q⟩
end
def co.length{O:cj}{I:Opq}: ∀{a:zw} {v:List Zl},co O I a v->v.length=a.length
 | [],_,h=>by rw[h];rfl
 |_::r,_,⟨v,vr,e,_,q⟩=>by rw[e];simp[co.length q]
def co.cons{O:cj}{I:Opq}{a:AV}{r:zw}{v:Zl}{vr:List Zl}(h:VR O I a v)(k:co O I r vr):co O I (a::r) (v::vr):=⟨v,vr,rfl,h,k⟩
def co.nil{O:cj}{I:Opq}:co O I [] []:=rfl
theorem co.one{O:cj}{I:Opq}{a:AV}{v:Zl}(h:VR O I a v):co O I [a] [v]:= .cons h .nil
def co.append{O:cj}{I:Opq}: ∀{a b:zw} {v u:List Zl},co O I a v->co O I b u->co O I (a++b) (v++u)
 | [],_,_,_,h,k=>by rw[h];exact k
 |_::_,_,_,_,⟨v,vr,e,p,q⟩,k=>by rw[e];exact .cons p (co.append q k)
def co.drop{O:cj}{I:Opq}: ∀(n:Nat) {a:zw} {v:List Zl},co O I a v->co O I (a.drop n) (v.drop n)
 |0,_,_,h=>h
 |n+1,[],_,h=>by rw[h];exact .nil
 |n+1,_::_,_,⟨v,vr,e,p,q⟩=>by rw[e];exact co.drop n q
def co.take{O:cj}{I:Opq}: ∀(n:Nat) {a:zw} {v:List Zl},co O I a v->co O I (a.take n) (v.take n)
 |0,_,_,h=>by exact .nil
 |n+1,[],_,h=>by rw[h];exact .nil
 |n+1,_::_,_,⟨v,vr,e,p,q⟩=>by rw[e];exact .cons p (co.take n q)
theorem co.get{O:cj}{I:Opq}: ∀{a:zw} {v:List Zl} (i:Nat) (x:AV),co O I a v->a[i]? =some x-> ∃y,v[i]? =some y/\VR O I x y
 | [],_,i,x,h,e=>by simp at e
 |a::r,_,0,x,⟨v,vr,e',p,q⟩,e=>by(intros;simp_all)
 |a::r,_,i+1,x,⟨v,vr,e',p,q⟩,e=>by
  obtain⟨y,hy,z⟩:=co.get i x q e
  (intros;simp_all)
theorem VR.one{O:cj}{I:Opq}{a:AV}{v:Zl}(h:VR O I a v)(ho:a.one=true):v.oneCell'=true:=by
 cases a<;>simp only[VR,AV.one]at h ho<;>first
  |(rcases h with⟨L,c,a,_,rfl,_⟩|⟨rfl,_⟩<;>rfl)
  |(rcases h with⟨L,c,a,_,rfl,_⟩|⟨a,c,rfl,_⟩<;>rfl)
  |(rcases h with⟨L,c,_,_,rfl,_⟩|⟨rfl,_⟩<;>rfl)
  |(subst h;rfl)
  |(obtain⟨L,_,rfl⟩:=h;rfl)
  |(obtain⟨L,c,_,_,rfl⟩:=h;rfl)
  |(obtain⟨L,a,c,_,rfl,_⟩:=h;rfl)
  |(obtain⟨a,rfl⟩:=h;rfl)
  |(obtain⟨m,rfl,_⟩:=h;rfl)
  |(obtain⟨_,x,y,rfl,_⟩:=h;rfl)
  |(obtain⟨y,rfl,_⟩:=h;rfl)
  |(subst h;exact I.one _)
  |simp at ho
def AV.one_A{a:AV}(h:a.one=true):a.oneA=true:=by cases a<;>first|rfl|cases h
theorem qi{l:zw}(h:l.all AV.one=true):l.all AV.oneA=true:=l5.2 λx hx=>AV.one_A (l5.1 h x hx)
theorem VR.cells{O:cj}{I:Opq}{a:AV}{v:Zl}(h:VR O I a v)(ht:a.nt=true):co O I a.cells v.cells.toList:=by
 cases a with
 |agg cs=>obtain⟨xs,rfl,p⟩:=h;exact p
 |V vs=>cases ht
 |any=>cases ht
 |func fn x y=>obtain⟨n,a,b,rfl,p,q⟩:=h;exact .one ⟨n,a,b,rfl,p,q⟩
 |iface t x=>obtain⟨y,rfl,p⟩:=h;exact .one ⟨y,rfl,p⟩
 |opq n=>
  have h1:=VR.one h rfl;have:v.cells= #[v]:=by cases v<;>first|rfl|grind[Value.oneCell']
  rw[this];exact .one h
 |_=>
  have h1:=VR.one h rfl;have:v.cells= #[v]:=by cases v<;>first|rfl|grind[Value.oneCell']
  rw[this];exact .one h
def bs3{O:cj}{I:Opq}{v:Zl}{a:AV}(h:zW v=some a):VR O I a v:=by
 unfold zW at h;split at h<;>first
  |(grind[Option.some.injEq,VR])
  |simp at h
def c92{v:Zl}{a:AV}(h:zW v=some a):a.one=true:=by
 unfold zW at h;split at h<;>first
  |(simp only[j5]at h;subst h;rfl)
  |simp at h
def ba5{O:cj}{I:Opq}: ∀{l:List Zl} {cs:zw},l.mapM zW=some cs->co O I cs l
 | [],cs,h=>by simp at h;subst h;rfl
 |v::r,cs,h=>by simp[N3,Option.bind_eq_bind,o8,Option.pure_def,j5]at h;obtain⟨a,ha,b,hb,rfl⟩:=h;exact .cons (bs3 ha) (ba5 hb)
def to{O:cj}{I:Opq}{v:Zl}{a:AV}(h:wZ v=some a):VR O I a v:=by unfold wZ at h;split at h;simp at h;obtain⟨cs,hc,rfl⟩:=h;exact⟨_,rfl,ba5 hc⟩;split at h;rename_i vs l e;simp at h;subst h;exact⟨vs,rfl,e⟩;cases h;exact bs3 h
inductive ERs (O:cj) (I:Opq):aaJ->aaC->Prop where
 |nil:ERs O I [] []
 |cons {e:Ent} {r:aaJ} {k v:Zl} {m:aaC}:VR O I e.key k->VR O I e.val v->ERs O I r m->ERs O I (e::r) (⟨k,v,e.born⟩::m)
def ERs.mono{O ac:cj}{I:Opq}(hl:Le O ac){a:aaJ}{m:aaC}(h:ERs O I a m):ERs ac I a m:=by
 induction h with
 |nil=>exact .nil
 |cons p q _ ih=>exact .cons (VR.mono hl _ _ p) (VR.mono hl _ _ q) ih
def ERs.length{O:cj}{I:Opq}{a:aaJ}{m:aaC}(h:ERs O I a m):m.length=a.length:=by
 induction h with
 |nil=>rfl
 |cons _ _ _ ih=>simp[ih]
def TR(O:cj)(I:Opq)(t:TF)(nt:Nat)(tmps:Array Zl):Prop:=tmps.size=nt/\nt<=256/\ ∀n,VR O I (t.get n) (tmps.getD n Go.undef)
def TR.mono{O ac:cj}{I:Opq}(hl:Le O ac){t:TF}{nt:Nat}{tmps:Array Zl}(h:TR O I t nt tmps):TR ac I t nt tmps:=
 ⟨h.1,h.2.1,λn=>VR.mono hl _ _ (h.2.2 n)⟩
def IR(O:cj):mB->mB->Prop
 |none,m=>m=none
 |some r,m=> ∃L,O r=some L/\m=some L.blk
def IR.mono{O ac:cj}(hl:Le O ac){a b:mB}(h:IR O a b):IR ac a b:=by
 cases a with
 |none=>exact h
 |some r=>obtain⟨L,e,x⟩:=h;exact⟨L,hl _ _ e,x⟩
def gg(c:CT)(x:Val):Zl:=match c with
 | .int k=> .int k x.I
 | .str=> .string ⟨x.toS.toArray⟩
 | .bool=> .bool x.Z
def dD(sig:wD)(r:Val):List Zl:=(List.range sig.length).map λj=>gg (sig.getD j .bool) (r.L.getD j default)
def Y2(sig:wD)(l:U7):List Zl:=l.flatMap (dD sig)
def iw:List Zl->Zl
 | [v]=>v
 |vs=> .agg vs.toArray
def ld(ks vs:wD)(r:Val):Zl×Zl:=(iw ((dD (ks++vs) r).take ks.length),iw ((dD (ks++vs) r).drop ks.length))
def fx(d:Bool)(E:aaC)(c:Nat):Prop:=(E.map (·.born)).Pairwise (· < ·)/\(∀e∈E,e.born<c)/\(d=true->E.map (·.born)=List.range c)
def fx.nil(c:Nat):fx (Nat.beq c 0) [] c:=by (constructor<;>simp_all)
def fx.weak{d d':Bool}{E:aaC}{c:Nat}(h:fx d' E c)(hd:(!d||d')=true):fx d E c:=⟨h.1,h.2.1,λe=>h.2.2 (by grind)⟩
def BR(O:cj)(I:Opq)(L:Loc)(o:aaY):Blk->Prop
 | .cells e fz cs=> ∃C lo hi vs,o=some (.cells C e (lo,hi))/\L.off+L.ext<=C.size/\cs.length<=L.ext/\cs.all AV.oneA=true/\co O I cs vs/\
  (∀i,i<cs.length->C[L.off+i]? =vs[i]?)/\(∀i,fz<=i->i<L.ext-> ¬(lo<=L.off+i/\L.off+i<hi))/\(I.fix e=true->L.off=0)
 | .A e sig l=> ∃C e' lo hi,o=some (.cells C e' (lo,hi))/\(e'=e\/e=iU)/\L.off+L.ext<=C.size/\(dL I l).length*sig.length<=L.ext/\
  (∀i v,(Y2 sig (dL I l))[i]? =some v->C[L.off+i]? =some v)/\(∀i,i<L.ext-> ¬(lo<=L.off+i/\L.off+i<hi))
 | .map es c=> ∃E,o=some (.map E c)/\ERs O I es E.toList
 | .marr d ks vs l=> ∃E c,o=some (.map E c)/\(E.toList.map λe=>(e.key,e.val))=(dL I l).map (ld ks vs)/\fx d E.toList c
 | .bag e sig l=> ∃D:U7,D.Perm (dL I l)/\ ∃C e' lo hi,o=some (.cells C e' (lo,hi))/\(e'=e\/e=iU)/\L.off+L.ext<=C.size/\D.length*sig.length<=L.ext/\
  (∀i v,(Y2 sig D)[i]? =some v->C[L.off+i]? =some v)/\(∀i,i<L.ext-> ¬(lo<=L.off+i/\L.off+i<hi))
 | .mrg it d ks vs l=> ∃E c Li,o=some (.map E c)/\O it=some Li/\Li.ext=c/\(E.toList.map λe=>(e.key,e.val))=(dL I l).map (ld ks vs)/\fx d E.toList c
 | .vec cs=> ∃C e lo hi vs,o=some (.cells C e (lo,hi))/\co O I cs vs/\ ∀i,i<cs.length->C[L.off+i]? =vs[i]?
 | .mit m=>L.off=0/\ ∃Lm,O m=some Lm/\o=some (.mapIter (some Lm.blk) L.ext #[] L.ext)
 | .strIter s pos=>L.off=0/\o=some (.stringIter ⟨s.toArray⟩ pos)
 | .mapIter m since seen last=>L.off=0/\ ∃m',o=some (.mapIter m' since seen.toArray last)/\IR O m m'
 | .loop st pend fn tm nt ps as body d=> ∃tmps f' Ld,o=some (.loop {state:=st,pending:=pend,fn:=f',tmps:=tmps,params:=ps,assign:=as,body:=body,defers:=Ld.blk})/\O d=some Ld/\TR O I tm nt tmps
 | .defd taken=>o=some (.deferred (if taken then none else some []))
def BR.mono{O ac:cj}{I:Opq}(hl:Le O ac){L:Loc}{o:aaY}{x:Blk}(h:BR O I L o x):BR ac I L o x:=by
 cases x with
 |cells e fz cs=>obtain⟨C,lo,hi,vs,h1,h2,h3,h4,h5,h6⟩:=h;exact⟨C,lo,hi,vs,h1,h2,h3,h4,co.mono hl _ _ h5,h6⟩
 |A e sig l=>exact h
 |map es c=>obtain⟨E,h1,h2⟩:=h;exact⟨E,h1,h2.mono hl⟩
 |marr d ks vs l=>exact h
 |bag e sig l=>exact h
 |mrg it d ks vs l=>obtain⟨E,c,Li,h1,h2,h3⟩:=h;exact⟨E,c,Li,h1,hl _ _ h2,h3⟩
 |mit m=>obtain⟨h0,Lm,h1,h2⟩:=h;exact⟨h0,Lm,hl _ _ h1,h2⟩
 |vec cs=>obtain⟨C,e,lo,hi,vs,h1,h2,h3⟩:=h;exact⟨C,e,lo,hi,vs,h1,co.mono hl _ _ h2,h3⟩
 |strIter s pos=>exact h
 |mapIter m since seen last=>obtain⟨h0,m',h1,h2⟩:=h;exact⟨h0,m',h1,h2.mono hl⟩
 |loop st pend fn tm nt ps as body d=>obtain⟨tmps,f',Ld,h1,h2,h3⟩:=h;exact⟨tmps,f',Ld,h1,hl _ _ h2,h3.mono hl⟩
 |defd t=>exact h
def Blk.isArr:Blk->Bool
 | .A _ _ _=>true
 | .bag _ _ _=>true
 | .vec _=>true
 |_=>false
structure HR (O:cj) (I:Opq) (K:wW) (w0:Ac) (h:Heap) (w:Ac):Prop where
 blk: ∀b x L,h.get b=some x->O b=some L->BR O I L w.heap[L.blk]? x
 sep: ∀b b' x x' L L',h.get b=some x->h.get b'=some x'->O b=some L->O b'=some L'->b≠b'->h.wm<=b\/h.wm<=b'\/x.isArr=false\/x'.isArr=false->L.blk≠L'.blk
 fresh: ∀b,h.next<=b->O b=none
 fget: ∀b,h.next<=b->h.get b=none
 lt: ∀b L,O b=some L->L.blk<w.heap.size
 kin: ∀i,K i->i<w0.heap.size
 keep: ∀i,K i->w.heap[i]? =w0.heap[i]?
 free: ∀b x L,h.get b=some x->h.wm<=b->O b=some L-> ¬K L.blk
 size:w0.heap.size<=w.heap.size
 os:w.os=w0.os
 tape:w.tape=w0.tape
 out:w.output=w0.output
 dr:w0.drawn<=w.drawn
inductive RowB:lW->Prop where
 |A (e:zX) (sig:wD) (l:SX):RowB (some (.A e sig l))
 |bag (e:zX) (sig:wD) (l:SX):RowB (some (.bag e sig l))
theorem RowB.of{x:lW}{e:zX}{sig:wD}{l:SX}(h:x=some (.A e sig l)):RowB x:=h▸ .A e sig l
structure St (h:Heap) (O:cj) (h':Heap) (ac:cj):Prop where
 le:h.next<=h'.next
 ext: ∀b,b<h.next->ac b=O b
 unm: ∀b,b<h.next->O b=none->h'.get b=h.get b\/h'.get b=none\/RowB (h.get b)
 wm:h'.wm=h.wm
def St.refl(h:Heap)(O:cj):St h O h O:=⟨j6 _,λ_ _=>rfl,λ_ _ _=> .inl rfl,rfl⟩
def St.trans{h h' h'':Heap}{O ac am:cj}(s:St h O h' ac)(t:St h' ac h'' am):St h O h'' am:=
 ⟨p9 s.le t.le,λb hb=>(t.ext b (y7 hb s.le)).trans (s.ext b hb),
  λb hb hn=>by
   rcases t.unm b (y7 hb s.le) ((s.ext b hb).trans hn)with h1|h1|h1
   .rcases s.unm b hb hn with h2|h2|h2
    ·(intros;simp_all)
    ·(intros;simp_all)
    grind
   grind
   .rcases s.unm b hb hn with h2|h2|h2
    ·(intros;simp_all)
    rw[h2]at h1;cases h1
    grind,t.wm.trans s.wm⟩
def St.Le{O:cj}{I:Opq}{K:wW}{w0 w:Ac}{h h':Heap}{ac:cj}(s:St h O h' ac)(r:HR O I K w0 h w):Le O ac:=by
 intro b L e;rw[s.ext b];exact e
 .rcases k8 b h.next with hb|hb
  .exact hb
  rw[r.fresh b hb]at e;cases e
def HR.drew{O:cj}{I:Opq}{K:wW}{w0 w:Ac}{h:Heap}(r:HR O I K w0 h w):HR O I K w0 h w.drew:=
 ⟨r.blk,r.sep,r.fresh,r.fget,r.lt,r.kin,r.keep,r.free,r.size,r.os,r.tape,r.out,N4 r.dr⟩
def cj.add(O:cj)(n:Nat)(L:Loc):cj:=λb=>if b=n then some L else O b
def HR.new{O:cj}{I:Opq}{K:wW}{w0 w:Ac}{h:Heap}(r:HR O I K w0 h w)(o:Obj)(x:Blk)(off ext:Nat)
 (hx:BR (O.add h.next ⟨w.heap.size,off,ext⟩) I ⟨w.heap.size,off,ext⟩ (some o) x):
 HR (O.add h.next ⟨w.heap.size,off,ext⟩) I K w0 (h.new x) (w.alloc o)/\St h O (h.new x) (O.add h.next ⟨w.heap.size,off,ext⟩):=by
 have hst:St h O (h.new x) (O.add h.next ⟨w.heap.size,off,ext⟩):=by refine⟨by simp,λb hb=> ?_,λb hb _=> ?_,rfl⟩;simp only[cj.add];grind;left;rw[Heap.get_new,b9 (by omega)]
 have hle:=hst.Le r;have hold: ∀i,i<w.heap.size->(w.alloc o).heap[i]? =w.heap[i]? :=λi hi=>RowKit.Below.heap_alloc _ _ _ hi
 have iT:(w.alloc o).heap[w.heap.size]? =some o:=by show(w.heap.push o)[w.heap.size]? =_;simp
 refine⟨⟨?_,?_,?_,?_,?_,r.kin,?_,?_,?_,r.os,r.tape,r.out,r.dr⟩,hst⟩
 .intro b y L hg hb;rw[Heap.get_new]at hg;by_cases e:b=h.next
  .subst e;rw[i6 rfl]at hg;split at hg;simp only[j5]at hg;subst hg;simp only[cj.add,if_true,j5]at hb;(intros;grind);grind
  rw[b9 e]at hg;simp only[cj.add,b9 e]at hb;rw[hold _ (r.lt b L hb)];exact(r.blk b y L hg hb).mono hle
 .intro b b' y y' L L' hg hg' hb hb' hne hw;rw[Heap.get_new]at hg hg';by_cases e:b=h.next
  .by_cases e':b'=h.next
   .omega
   subst e;simp only[cj.add,if_true,j5]at hb;subst hb;simp only[cj.add,b9 e']at hb';exact Nat.ne_of_gt (r.lt b' L' hb')
  .simp only[cj.add,b9 e]at hb;rw[b9 e]at hg;by_cases e':b'=h.next
   .subst e';simp only[cj.add,if_true,j5]at hb';subst hb';exact Q1 (r.lt b L hb)
   simp only[cj.add,b9 e']at hb';rw[b9 e']at hg';exact r.sep b b' y y' L L' hg hg' hb hb' hne hw
 intro b hb;simp only[Heap.next_new]at hb;simp only[cj.add];rw[b9 (by omega)];exact r.fresh b (by omega);intro b hb;simp only[Heap.next_new]at hb;rw[Heap.get_new,b9 (by omega)];exact r.fget b (by omega);intro b L hb;rw[World.size_alloc];simp only[cj.add]at hb;split at hb;grind;exact Nat.lt_succ_of_lt (r.lt b L hb);intro i hi;rw[hold i (y7 (r.kin i hi) r.size)];exact r.keep i hi
 .intro b y L hg hw hb;rw[Heap.get_new]at hg;by_cases e:b=h.next
  .subst e;simp only[cj.add,if_true,j5]at hb;subst hb;intro hk;exact absurd (r.kin _ hk) (E6.2 r.size)
  rw[b9 e]at hg;simp only[cj.add,b9 e]at hb;exact r.free b y L hg hw hb
 rw[World.size_alloc];exact N4 r.size
def HR.U{O:cj}{I:Opq}{K:wW}{w0 w w':Ac}{h:Heap}(r:HR O I K w0 h w)(b:Nat)(x0 x:Blk)(L:Loc)
 (hg:h.get b=some x0) (hb:O b=some L) (hwm:h.wm<=b)
 (hother: ∀i,i≠L.blk->w'.heap[i]? =w.heap[i]?) (hsz:w'.heap.size=w.heap.size) (hos:w'.os=w.os) (htp:w'.tape=w.tape) (hout:w'.output=w.output) (hdr:w'.drawn=w.drawn)
 (hx:BR O I L w'.heap[L.blk]? x):HR O I K w0 (h.put b (some x)) w'/\St h O (h.put b (some x)) O:=by
 refine⟨⟨?_,?_,r.fresh,?_,?_,r.kin,?_,?_,?_,hos.trans r.os,htp.trans r.tape,hout.trans r.out,by rw[hdr];exact r.dr⟩,⟨j6 _,λ_ _=>rfl,?_,rfl⟩⟩;intro b' y L' hg' hb';rw[Heap.get_put]at hg';by_cases e:b'=b;grind;rw[b9 e]at hg';rw[hother _ (r.sep b' b y x0 L' L hg' hg hb' hb e (.inr (.inl hwm)))];exact r.blk b' y L' hg' hb';intro b1 b2 y y' L1 L2 h1 h2 h3 h4 hne hw;rw[Heap.get_put]at h1 h2;by_cases e1:b1=b;subst e1;rw[b9 (Ne.symm hne)]at h2;exact r.sep b1 b2 x0 y' L1 L2 hg h2 h3 h4 hne (.inl hwm);rw[b9 e1]at h1;by_cases e2:b2=b;subst e2;exact r.sep b1 b2 y x0 L1 L2 h1 hg h3 h4 hne (.inr (.inl hwm));rw[b9 e2]at h2;exact r.sep b1 b2 y y' L1 L2 h1 h2 h3 h4 hne hw;intro b' hb';rw[Heap.get_put];by_cases e:b'=b;subst e;rw[r.fget b' hb']at hg;cases hg;rw[b9 e];exact r.fget b' hb';intro b' L' hb';rw[hsz];exact r.lt b' L' hb';intro i hi;rw[hother i (λe=>r.free b x0 L hg hwm hb (e▸hi))];exact r.keep i hi;intro b' y L' hg' hw' hb';rw[Heap.get_put]at hg';by_cases e:b'=b;subst e;exact r.free b' x0 L' hg hw' hb';rw[b9 e]at hg';exact r.free b' y L' hg' hw' hb';rw[hsz];exact r.size;intro b' _ hn;left;rw[Heap.get_put,b9];grind
def HR.drop{O:cj}{I:Opq}{K:wW}{w0 w:Ac}{h:Heap}(r:HR O I K w0 h w)(b:Nat):
 HR O I K w0 (h.put b none) w/\St h O (h.put b none) O:=by
 have hg: ∀b' y,(h.put b none).get b'=some y->b'≠b/\h.get b'=some y:=by
  intro b' y hg;rw[Heap.get_put]at hg
  (intros;simp_all)
 refine⟨⟨λb' y L' h1=>r.blk b' y L' (hg _ _ h1).2,λb1 b2 y y' L1 L2 h1 h2=>r.sep b1 b2 y y' L1 L2 (hg _ _ h1).2 (hg _ _ h2).2,r.fresh,?_,r.lt,r.kin,r.keep,
  λb' y L' h1=>r.free b' y L' (hg _ _ h1).2,r.size,r.os,r.tape,r.out,r.dr⟩,⟨j6 _,λ_ _=>rfl,?_,rfl⟩⟩
 intro b' hb';rw[Heap.get_put];split;split<;>rfl;exact r.fget b' hb';intro b' _ _;rw[Heap.get_put]
 (split<;>simp_all)
def HR.kill{O:cj}{I:Opq}{K:wW}{w0 w:Ac}{h:Heap}(r:HR O I K w0 h w)(b:Nat)(L:Loc)(hb:O b=some L):
 HR O I K w0 (h.put b none) w/\St h O (h.put b none) O:=r.drop b
def HR.retell{O:cj}{I:Opq}{K:wW}{w0 w:Ac}{h:Heap}{b:Nat}{x y:Blk}(r:HR O I K w0 h w)(hg:h.get b=some x)(hk:h.wm<=b\/x.isArr=false)(hbr: ∀L,O b=some L->BR O I L w.heap[L.blk]? x->BR O I L w.heap[L.blk]? y){h2:Heap}(h2n:h2.next=h.next)(h2w:h2.wm=h.wm)
 (h2g: ∀z,h2.get z=if z=b then some y else h.get z):HR O I K w0 h2 w:=by
 have key: ∀z u,h2.get z=some u-> ∃v,h.get z=some v/\(∀L,O z=some L->BR O I L w.heap[L.blk]? v->BR O I L w.heap[L.blk]? u)/\(h.wm<=z\/v.isArr=false\/v=u):=by grind
 refine⟨λx y L hy hL=> ?_,λx x' y y' L L' hy hy' hL hL' hne hw=> ?_,λx hx=>r.fresh x (by omega),λx hx=> ?_,r.lt,r.kin,r.keep,λx y L hy hw hL=> ?_,r.size,r.os,r.tape,r.out,r.dr⟩;obtain⟨z,z1,z2,_⟩:=key x y hy;exact z2 L hL (r.blk x z L z1 hL);obtain⟨z,z1,_,z3⟩:=key x y hy;obtain⟨z',z1',_,z3'⟩:=key x' y' hy';refine r.sep x x' z z' L L' z1 z1' hL hL' hne ?_;grind;have:=r.fget x (by(intros;grind));grind;obtain⟨z,z1,_⟩:=key x y hy;exact r.free x z L z1 (by omega) hL
