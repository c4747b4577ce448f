import GoSem.Step
import Derived.RangeFuncLeaves
import Derived.WalkKit
set_option linter.all false
noncomputable section
namespace Go.Ev
open Go
abbrev abk:= Array (Nat×Value)
abbrev abd:= Option Addr
abbrev abc:= List Field
abbrev abb:= Array MapEntry
abbrev aba:= Option Value
abbrev aa9:= List (Nat×Operand)
abbrev aa7:= Option TypeDesc
abbrev aa6:= List MemPlace
abbrev aa2:= Option Operand
abbrev aa1:= List Deferred
abbrev aaX:= List ResultVar
abbrev aaW:= Option (Nat×Nat)
abbrev aaV:= Option Obj
abbrev aaU:= Array Oper
abbrev aaN:= List (Nat×List Nat)
abbrev aaJ:= Option Tmp
abbrev aaI:= Array Bool
abbrev aaE:= List MapEntry
abbrev aaC:= List Int
abbrev aaB:= List (Int×Int)
abbrev aaz:= Array TypeId
abbrev aay:= List Oper
abbrev aau:= Array Value
abbrev HQ:= List Nat
abbrev AK:= Option Bool
abbrev Bj:= Option Nat
abbrev vE:= Operand
abbrev yM:= World
abbrev zI:= Nat->Prop
abbrev uV:= Program
abbrev qw:= List UInt8
abbrev CI:= List Value
abbrev Bg:= TypeId
abbrev AS:= Value
abbrev b9:=@if_neg
abbrev c9:=@if_pos
abbrev i6:=@decide_eq_true
abbrev j0:=@Option.some.injEq
abbrev j5:=@Nat.le_refl
abbrev j6:=@of_decide_eq_true
abbrev j7:=@decide_eq_false
abbrev j8:=@Bool.and_eq_true
abbrev j9:=@List.mem_map
abbrev k5:=@List.getD_eq_getElem?_getD
abbrev k6:=@List.length_map
abbrev k7:=@List.length_append
abbrev k8:=@Nat.lt_or_ge
abbrev k9:=@List.all_eq_true
abbrev l5:=@List.length_take
abbrev l7:=@Nat.le_trans
abbrev l9:=@List.mem_filter
abbrev m7:=@List.getElem?_eq_getElem
abbrev m8:=@List.map_cons
abbrev m9:=@Nat.zero_add
abbrev n8:=@List.mem_cons
abbrev n9:=@Bool.false_eq_true
abbrev o7:=@List.mem_singleton
abbrev o8:=@List.map_map
abbrev o9:=@List.append_nil
abbrev p7:=@List.mem_range
abbrev p8:=@Nat.zero_le
abbrev r9:=@List.map_append
abbrev s6:=@List.getElem?_append_right
abbrev s7:=@Option.bind_eq_some_iff
abbrev s8:=@Bool.not_eq_true'
abbrev s9:=@Bool.or_eq_true
abbrev u9:=@Option.map_eq_some_iff
abbrev x5:=@List.getElem?_eq_none
abbrev x6:=@List.mem_append
abbrev x7:=@Nat.add_mul
abbrev x8:=@Array.getD_eq_getD_getElem?
abbrev x9:=@List.getElem?_append_left
abbrev y5:=@Prod.mk.injEq
abbrev y6:=@List.map_congr_left
abbrev y7:=@List.mem_cons_of_mem
abbrev y8:=@Int.le_refl
abbrev y9:=@List.getD_cons_zero
abbrev A0:=@List.getD_cons_succ
abbrev A1:=@Nat.lt_of_lt_of_le
abbrev A2:=@Bool.not_eq_true
abbrev A3:=@List.take_append_drop
abbrev A4:=@Bool.and_true
abbrev A5:=@Nat.add_assoc
abbrev A6:=@List.take_length
abbrev A7:=@List.mem_flatMap
abbrev A8:=@List.append_assoc
abbrev A9:=@Bool.eq_false_or_eq_true
abbrev B0:=@Bool.true_and
abbrev B1:=@List.filter_cons
abbrev B2:=@List.flatMap_cons
abbrev B3:=@Bool.not_true
abbrev B4:=@Nat.mul_le_mul_right
abbrev B5:=@Array.getElem?_eq_getElem
abbrev B6:=@Bool.false_or
abbrev B7:=@List.getElem?_eq_some_iff
abbrev B8:=@List.pairwise_cons
abbrev B9:=@List.find?_eq_none
abbrev C0:=@Nat.min_eq_left
abbrev C1:=@List.length_set
abbrev C3:=@List.getElem_of_mem
abbrev C4:=@List.mem_cons_self
abbrev C5:=@List.length_eq_zero_iff
abbrev C6:=@List.getElem_mem
abbrev C7:=@List.eq_nil_of_length_eq_zero
abbrev C8:=@List.getElem?_take
abbrev C9:=@List.any_eq_false
abbrev D6:=@Bool.eq_iff_iff
abbrev D7:=@List.getElem?_drop
abbrev D8:=@List.getElem?_map
abbrev D9:=@Array.getElem?_eq_none
abbrev E2:=@Nat.le_add_right
abbrev E3:=@List.filter_append
abbrev E4:=@Nat.not_lt
abbrev E5:=@Nat.add_comm
abbrev E6:=@Nat.le_of_mul_le_mul_right
abbrev E7:=@List.nodup_cons
abbrev E8:=@Int.not_lt
abbrev E9:=@Int.add_mul
abbrev F5:=@List.map_id
abbrev F6:=@List.range'_succ
abbrev F7:=@Nat.one_mul
abbrev F8:=@Bool.false_and
abbrev F9:=@List.take_left
abbrev G0:=@List.drop_left
abbrev G1:=@List.drop_zero
abbrev G2:=@Bool.or_false
abbrev G3:=@List.not_mem_nil
abbrev G4:=@Int.mul_comm
abbrev G5:=@Int.mul_le_mul_of_nonneg_right
abbrev G6:=@Nat.lt_trichotomy
abbrev G7:=@List.all_append
abbrev G8:=@List.mem_of_getElem?
abbrev G9:=@Nat.add_sub_cancel_left
abbrev I0:=@List.mem_append_left
abbrev I1:=@List.perm_ext_iff_of_nodup
abbrev I2:=@Bool.and_eq_false_iff
abbrev I3:=@Int.emod_nonneg
abbrev I4:=@Int.emod_lt_of_pos
abbrev I5:=@Int.mul_nonneg
abbrev I6:=@List.foldl_append
abbrev I7:=@Int.sub_mul
abbrev I8:=@List.nodup_iff_pairwise_ne
abbrev I9:=@List.pairwise_map
abbrev J0:=@List.Pairwise.imp
abbrev J1:=@List.getElem_map
abbrev J2:=@List.forIn_cons
abbrev J3:=@List.mem_of_mem_take
abbrev J4:=@List.ext_getElem
abbrev J5:=@List.range_succ_eq_map
abbrev J6:=@List.range_eq_range'
abbrev J7:=@Nat.sub_self
abbrev J8:=@List.length_drop
abbrev J9:=@List.take_of_length_le
abbrev K0:=@List.drop_eq_nil_of_le
abbrev K1:=@Nat.le_of_not_lt
abbrev K2:=@List.any_eq_true
abbrev K3:=@List.length_filter_le
abbrev K4:=@List.size_toArray
abbrev K5:=@Nat.mul_comm
abbrev K6:=@List.pairwise_iff_getElem
abbrev K7:=@List.Perm.refl
abbrev K8:=@List.find?_range_eq_none
abbrev K9:=@List.flatMap_map
abbrev M3:=@Prod.ext
abbrev M4:=@Int.not_le
abbrev M5:=@Bool.and_false
abbrev M6:=@Nat.le_of_lt
abbrev M7:=@Int.add_zero
abbrev M8:=@List.length_pos_iff
abbrev M9:=@Nat.mul_le_mul_left
abbrev N0:=@Nat.mul_div_le
abbrev N1:=@List.mapM_cons
abbrev N2:=@Nat.le_succ_of_le
abbrev N3:=@Bool.not_false
abbrev N4:=@List.drop_append
abbrev N5:=@List.drop_drop
abbrev N6:=@Nat.mul_le_mul
abbrev N7:=@Nat.eq_zero_or_pos
abbrev N8:=@List.getElem?_toArray
abbrev N9:=@Array.toList_push
abbrev O0:=@Nat.mod_lt
abbrev O1:=@List.flatMap_append
abbrev O2:=@Array.toList_inj
abbrev O3:=@List.ext_getElem?
abbrev O4:=@List.drop_of_length_le
abbrev O5:=@Array.getElem?_setIfInBounds
abbrev O6:=@Bool.or_eq_false_iff
abbrev O7:=@Nat.beq_eq
abbrev O8:=@List.nodup_range
abbrev O9:=@List.nodup_append
abbrev P0:=@List.map_nil
abbrev P3:=@List.take_add_one
abbrev P4:=@Int.ediv_le_self
abbrev P5:=@Int.emod_def
abbrev P6:=@Int.ediv_self
abbrev P7:=@List.take_append_getElem
abbrev P8:=@Int.mul_add
abbrev P9:=@Nat.not_lt_zero
abbrev Q0:=@Nat.min_eq_right
abbrev Q1:=@Bool.true_eq_false
abbrev Q2:=@Nat.ne_of_lt
abbrev Q3:=@Int.fdiv_eq_ediv_of_nonneg
abbrev Q4:=@Nat.add_sub_cancel
abbrev Q5:=@List.take_take
abbrev Q6:=@List.drop_take
abbrev Q7:=@Option.isSome_iff_exists
abbrev Q8:=@Array.all_eq_true'
abbrev Q9:=@Array.getElem?_modify
abbrev R0:=@Array.toList_modify
abbrev R1:=@Nat.zero_mul
abbrev R2:=@List.range_succ
abbrev R3:=@List.cons.inj
abbrev R4:=@Bool.and_self
abbrev R5:=@List.mem_append_right
abbrev R6:=@Bool.not_not
abbrev R7:=@List.filter_eq_nil_iff
abbrev R8:=@List.drop_eq_getElem_cons
abbrev R9:=@Option.some.inj
abbrev S0:=@Nat.max_eq_right
abbrev S1:=@Nat.max_eq_left
abbrev S2:=@Array.getElem?_eq_some_iff
abbrev S3:=@List.Perm.eq_of_pairwise
abbrev S4:=@List.ne_nil_of_mem
abbrev S5:=@List.Perm.append_left
abbrev S6:=@Int.tmod_eq_emod_of_nonneg
abbrev S8:=@Int.ediv_nonneg
abbrev T1:=@Int.toNat_of_nonneg
abbrev T2:=@List.map_eq_flatMap
abbrev T3:=@List.filter_sublist
abbrev T4:=@List.mem_iff_getElem
abbrev T5:=@List.take_append_of_le_length
abbrev T6:=@Nat.lt_mul_div_succ
abbrev T7:=@List.take_succ_eq_append_getElem
abbrev T8:=@Array.mapM_eq_mapM_toList
abbrev T9:=@List.mem_of_mem_drop
abbrev aaa:=@Array.filter_eq_empty_iff
abbrev U3:=@List.eraseIdx_sublist
abbrev U4:=@Array.toList_eraseIdx
abbrev U5:=@List.mem_or_eq_of_mem_set
abbrev U6:=@Array.getElem?_replicate
abbrev U7:=@List.perm_append_singleton
abbrev U8:=@List.pairwise_reverse
abbrev U9:=@List.filter_reverse
abbrev V0:=@List.eq_nil_or_concat
abbrev V3:=@List.length_reverse
abbrev V4:=@Int.mul_ediv_add_emod
abbrev V5:=@Int.lt_of_mul_lt_mul_left
abbrev V6:=@Int.le_ediv_iff_mul_le
abbrev V7:=@Int.ediv_neg_of_neg_of_pos
abbrev V8:=@List.filter_cons_of_neg
abbrev V9:=@List.filter_cons_of_pos
abbrev W1:=@List.getElem?_set_ne
abbrev W2:=@List.filter_eq_self
abbrev W3:=@Option.isNone_iff_eq_none
abbrev W4:=@Bool.and_eq_true_iff
noncomputable section
structure P16 (α:Type)where
 f0:α
 f1:α
 f2:α
 f3:α
 f4:α
 f5:α
 f6:α
 f7:α
 f8:α
 f9:α
 f10:α
 f11:α
 f12:α
 f13:α
 f14:α
 f15:α
structure Dg where
 g:(α:Type)->P16 α->α
 s:(α:Type)->α->P16 α->P16 α
def dg0:Dg:=⟨λ_ t=>t.f0,λ_ x t=>⟨x,t.f1,t.f2,t.f3,t.f4,t.f5,t.f6,t.f7,t.f8,t.f9,t.f10,t.f11,t.f12,t.f13,t.f14,t.f15⟩⟩
def dg1:Dg:=⟨λ_ t=>t.f1,λ_ x t=>⟨t.f0,x,t.f2,t.f3,t.f4,t.f5,t.f6,t.f7,t.f8,t.f9,t.f10,t.f11,t.f12,t.f13,t.f14,t.f15⟩⟩
def dg2:Dg:=⟨λ_ t=>t.f2,λ_ x t=>⟨t.f0,t.f1,x,t.f3,t.f4,t.f5,t.f6,t.f7,t.f8,t.f9,t.f10,t.f11,t.f12,t.f13,t.f14,t.f15⟩⟩
def dg3:Dg:=⟨λ_ t=>t.f3,λ_ x t=>⟨t.f0,t.f1,t.f2,x,t.f4,t.f5,t.f6,t.f7,t.f8,t.f9,t.f10,t.f11,t.f12,t.f13,t.f14,t.f15⟩⟩
def dg4:Dg:=⟨λ_ t=>t.f4,λ_ x t=>⟨t.f0,t.f1,t.f2,t.f3,x,t.f5,t.f6,t.f7,t.f8,t.f9,t.f10,t.f11,t.f12,t.f13,t.f14,t.f15⟩⟩
def dg5:Dg:=⟨λ_ t=>t.f5,λ_ x t=>⟨t.f0,t.f1,t.f2,t.f3,t.f4,x,t.f6,t.f7,t.f8,t.f9,t.f10,t.f11,t.f12,t.f13,t.f14,t.f15⟩⟩
def dg6:Dg:=⟨λ_ t=>t.f6,λ_ x t=>⟨t.f0,t.f1,t.f2,t.f3,t.f4,t.f5,x,t.f7,t.f8,t.f9,t.f10,t.f11,t.f12,t.f13,t.f14,t.f15⟩⟩
def dg7:Dg:=⟨λ_ t=>t.f7,λ_ x t=>⟨t.f0,t.f1,t.f2,t.f3,t.f4,t.f5,t.f6,x,t.f8,t.f9,t.f10,t.f11,t.f12,t.f13,t.f14,t.f15⟩⟩
def dg8:Dg:=⟨λ_ t=>t.f8,λ_ x t=>⟨t.f0,t.f1,t.f2,t.f3,t.f4,t.f5,t.f6,t.f7,x,t.f9,t.f10,t.f11,t.f12,t.f13,t.f14,t.f15⟩⟩
def dg9:Dg:=⟨λ_ t=>t.f9,λ_ x t=>⟨t.f0,t.f1,t.f2,t.f3,t.f4,t.f5,t.f6,t.f7,t.f8,x,t.f10,t.f11,t.f12,t.f13,t.f14,t.f15⟩⟩
def en6:Dg:=⟨λ_ t=>t.f10,λ_ x t=>⟨t.f0,t.f1,t.f2,t.f3,t.f4,t.f5,t.f6,t.f7,t.f8,t.f9,x,t.f11,t.f12,t.f13,t.f14,t.f15⟩⟩
def en7:Dg:=⟨λ_ t=>t.f11,λ_ x t=>⟨t.f0,t.f1,t.f2,t.f3,t.f4,t.f5,t.f6,t.f7,t.f8,t.f9,t.f10,x,t.f12,t.f13,t.f14,t.f15⟩⟩
def en8:Dg:=⟨λ_ t=>t.f12,λ_ x t=>⟨t.f0,t.f1,t.f2,t.f3,t.f4,t.f5,t.f6,t.f7,t.f8,t.f9,t.f10,t.f11,x,t.f13,t.f14,t.f15⟩⟩
def en9:Dg:=⟨λ_ t=>t.f13,λ_ x t=>⟨t.f0,t.f1,t.f2,t.f3,t.f4,t.f5,t.f6,t.f7,t.f8,t.f9,t.f10,t.f11,t.f12,x,t.f14,t.f15⟩⟩
def eo0:Dg:=⟨λ_ t=>t.f14,λ_ x t=>⟨t.f0,t.f1,t.f2,t.f3,t.f4,t.f5,t.f6,t.f7,t.f8,t.f9,t.f10,t.f11,t.f12,t.f13,x,t.f15⟩⟩
def eo1:Dg:=⟨λ_ t=>t.f15,λ_ x t=>⟨t.f0,t.f1,t.f2,t.f3,t.f4,t.f5,t.f6,t.f7,t.f8,t.f9,t.f10,t.f11,t.f12,t.f13,t.f14,x⟩⟩
def tL(n:Nat):Dg:=bif Nat.ble 8 n then(bif Nat.ble 12 n then(bif Nat.ble 14 n then(bif Nat.ble 15 n then eo1 else eo0)else(bif Nat.ble 13 n then en9 else en8))else(bif Nat.ble 10 n then(bif Nat.ble 11 n then en7 else en6)else(bif Nat.ble 9 n then dg9 else dg8)))else(bif Nat.ble 4 n then(bif Nat.ble 6 n then(bif Nat.ble 7 n then dg7 else dg6)else(bif Nat.ble 5 n then dg5 else dg4))else(bif Nat.ble 2 n then(bif Nat.ble 3 n then dg3 else dg2)else(bif Nat.ble 1 n then dg1 else dg0)))
def P16.const{α:Type}(x:α):P16 α:=⟨x,x,x,x,x,x,x,x,x,x,x,x,x,x,x,x⟩
inductive Val where
 |D (n:Int)
 |vs (l:qw)
 |B (x:Bool)
 |A (r:List Val)
 deriving Inhabited
abbrev aaj:= Option (Nat×List Val)
abbrev U0:= List Val
def Val.I:Val->Int
 | .D n=>n
 |_=>0
def Val.S:Val->qw
 | .vs l=>l
 |_=>[]
def Val.Z:Val->Bool
 | .B x=>x
 |_=>false
def Val.L:Val->U0
 | .A r=>r
 |_=>[]
inductive CT where
 |int (k:IntKind)
 |str
 |bool
 deriving DecidableEq
abbrev zd:= List CT
inductive Prim where
 |ar (op:BinOp) (k:IntKind)
 |cmp (op:BinOp)
 |scmp (op:BinOp)
 |cat
 |not
 |and
 |or
 |beq
 |J
 |un (op:UnOp) (k:IntKind)
 |conv (k:IntKind)
 |slen
 |sat
 |ssub
 |Y
 |G
 |lset
 |lcat
 |lsub
 |row
 |imin
 |imax
 |iadd
 |isub
 |sbytes
 |bstr
 |bok
 |mfind (ks:zd)
 |mdel (ks:zd)
 |lrep
 |scnt
 |sidx
 deriving DecidableEq
inductive SX where
 |C (n:Int)
 |cs (l:qw)
 |cb (x:Bool)
 |V (n:Nat)
 |O (p:Prim) (l:List SX)
 |Q (f:Nat) (l:List SX)
 deriving Inhabited
abbrev abf:= Option (IntKind×SX)
abbrev aaR:= List (SX×Bool)
abbrev aaD:= Option SX
abbrev aax:= Option (List SX)
abbrev Jn:= List SX
inductive AV where
 |bool (b:Bool)
 |int (k:IntKind) (n:Int)
 |str (s:qw)
 |nilp
 |ptr (b o:Nat)
 |glob (g:Nat)
 |N
 |sl (b o len cap:Nat)
 |us (b o len sz:Nat)
 |es (b o sz:Nat)
 |es0
 |nilm
 |map (r:Nat)
 |nilf
 |func (fn:Fn) (first cap:List AV)
 |yield (l:Nat)
 |nili
 |iface (t:Nat) (v:AV)
 |agg (cs:List AV)
 |V (vs:List AV)
 |opq (n:Nat)
 |Z (k:IntKind) (e:SX)
 |K (e:SX)
 |H (e:SX)
 |S (b:Nat) (off len:SX) (sz:Nat)
 |optr (b:Nat) (idx:SX) (j sz:Nat)
 |U (b:Nat) (len:SX) (sz:Nat)
 |atl (n:Nat)
 |any
 deriving Inhabited
abbrev abe:= Option (Nat×List AV)
abbrev aaT:= Option (Option AV)
abbrev aaP:= Option (List AV)
abbrev aav:= List (Nat×AV)
abbrev yU:= Option AV
abbrev Fz:= List AV
def AV.undef:AV:= .V []
def QA:qw->qw->Bool
 | [],[]=>true
 |a::x,b::y=>bif Nat.beq a.toNat b.toNat then QA x y else false
 |_,_=>false
def NB:Int->Int->Bool
 | .ofNat a,.ofNat b=>Nat.beq a b
 | .negSucc a,.negSucc b=>Nat.beq a b
 |_,_=>false
mutual
def SX.beq:SX->SX->Bool
 | .C a,.C b=>NB a b
 | .cs a,.cs b=>QA a b
 | .cb a,.cb b=>a==b
 | .V a,.V b=>Nat.beq a b
 | .O p a,.O q b=>decide (p=q)&&SX.beqs a b
 | .Q p a,.Q q b=>Nat.beq p q&&SX.beqs a b
 |_,_=>false
def SX.beqs:Jn->Jn->Bool
 | [],[]=>true
 |a::x,b::y=>SX.beq a b&&SX.beqs x y
 |_,_=>false
end
abbrev TF:=P16 (P16 AV)
structure PF where
 g:TF->AV
 s:AV->TF->TF
def SO(x y:Dg):PF:=⟨λt=>y.g _ (x.g _ t),λv t=>x.s _ (y.s _ v (x.g _ t)) t⟩
def ef9:PF:=⟨λ_=> .undef,λ_ t=>t⟩
def Gg(n:Nat):PF:=bif Nat.blt n 256 then SO (tL (n/16)) (tL (n % 16))else ef9
def TF.get(t:TF)(n:Nat):AV:=(Gg n).g t
def TF.set(t:TF)(n:Nat)(v:AV):TF:=(Gg n).s v t
def eg0:P16 AV:=P16.const .undef
def TF.empty:TF:=P16.const eg0
inductive ADef where
 |coll (b:Nat)
 |fn (f:FuncId) (cap args:Fz)
abbrev aaH:= List ADef
structure Ent where
 key:AV
 val:AV
 born:Nat
abbrev aa5:= Option (Nat×Ent)
abbrev aaO:= List Ent
def jP:Nat:=4294967295
inductive Blk where
 |cells (elem fz:Nat) (cs:Fz)
 |A (elem:Nat) (sig:zd) (l:SX)
 |map (es:aaO) (clock:Nat)
 |marr (d:Bool) (ks vs:zd) (l:SX)
 |bag (elem:Nat) (sig:zd) (l:SX)
 |mrg (it:Nat) (d:Bool) (ks vs:zd) (l:SX)
 |mit (m:Nat)
 |vec (cs:Fz)
 |strIter (s:qw) (pos:Nat)
 |mapIter (m:Bj) (since:Nat) (seen:HQ) (stepped:Nat)
 |loop (st:LoopState) (pending:Option Code) (fn:FuncId) (tm:TF) (nt:Nat) (params:Array Tmp) (assign body:Code) (defers:Nat)
 |defd (taken:Bool)
abbrev aaL:= List Blk
abbrev aaF:= List (Nat×Option Blk)
abbrev aaw:= List (Option Blk)
abbrev sP:= Option Blk
abbrev TH:=P16 (P16 (P16 (P16 sP)))
structure PH where
 g:TH->sP
 s:sP->TH->TH
def Xr(x y z u:Dg):PH:=⟨λt=>u.g _ (z.g _ (y.g _ (x.g _ t))),
 λv t=>x.s _ (y.s _ (z.s _ (u.s _ v (z.g _ (y.g _ (x.g _ t)))) (y.g _ (x.g _ t))) (x.g _ t)) t⟩
def PK:PH:=⟨λ_=>none,λ_ t=>t⟩
def vR(n:Nat):PH:=bif !(Nat.blt n 65536)then PK else Xr (tL (n/4096)) (tL (n/256 % 16)) (tL (n/16 % 16)) (tL (n % 16))
structure Heap where
 t:TH
 next:Nat
 wm:Nat
abbrev aaY:= Option Heap
abbrev aat:= Option (AV×Heap)
def dG1:P16 sP:=P16.const none
def OO:P16 (P16 sP):=P16.const dG1
def NQ:P16 (P16 (P16 sP)):=P16.const OO
def fc(b:Nat)(t:TH)(_ _:Nat):sP:=(vR b).g t
def eo2(b:Nat)(x:sP)(t:TH)(next wm:Nat):Heap:=⟨(vR b).s x t,next,wm⟩
def kX(x:Blk)(t:TH)(next wm:Nat):Heap:=⟨(vR next).s (some x) t,next+1,wm⟩
def Heap.get(h:Heap)(b:Nat):sP:=Heap.rec (fc b) h
def Heap.put(h:Heap)(b:Nat)(x:sP):Heap:=Heap.rec (eo2 b x) h
def Heap.new(h:Heap)(x:Blk):Heap:=Heap.rec (kX x) h
def Heap.empty:Heap:=⟨P16.const NQ,0,0⟩
def eO(P:uV)(t:Bg):Bj:=(P.info? t).map (·.size)
def NV(P:uV)(t:Bg):AK:=(P.underlying t).map λ
 | .struct _| .array _ _=>true
 |_=>false
def Bb:AS->yU
 | .bool b=>some (.bool b)
 | .int k n=>some (.int k n)
 | .string s=>some (.str s.data.toList)
 | .pointer none=>some .nilp
 | .slice none 0 0=>some .N
 | .map none=>some .nilm
 | .nilFunc=>some .nilf
 | .nilIface=>some .nili
 |_=>none
def Bt:AS->yU
 | .agg cs=>(cs.toList.mapM Bb).map .agg
 | .tuple vs=>match vs.toList with
   | []=>some .undef
   |_=>none
 |v=>Bb v
def ju(P:uV)(t:Bg):yU:=((P.info? t).bind (·.zero)).bind Bt
def AV.cells:AV->Fz
 | .agg cs=>cs
 |v=>[v]
def AV.nt:AV->Bool
 | .V _=>false
 | .any=>false
 |_=>true
def AV.one:AV->Bool
 | .agg _| .V _| .any=>false
 |_=>true
def AV.oneA:AV->Bool
 | .agg _| .V _=>false
 |_=>true
def lT:Int->Int->Bool
 | .ofNat a,.ofNat b=>Nat.blt a b
 | .negSucc _,.ofNat _=>true
 | .ofNat _,.negSucc _=>false
 | .negSucc a,.negSucc b=>Nat.blt b a
def oC:Int->Int->Bool
 | .ofNat a,.ofNat b=>Nat.beq a b
 | .negSucc a,.negSucc b=>Nat.beq a b
 |_,_=>false
def Nv:IntKind->Nat
 | .i8=>128| .i16=>32768| .i32=>2147483648| .i64=>9223372036854775808
 | .u8=>256| .u16=>65536| .u32=>4294967296| .u64=>18446744073709551616
def oQ(k:IntKind)(n:Int):Int:=match n with
 | .ofNat m=>bif Nat.blt m (Nv k)then .ofNat m else k.wrap (.ofNat m)
 | .negSucc m=>k.wrap (.negSucc m)
def xD:Int->Bj
 | .ofNat n=>some n
 | .negSucc _=>none
def vD(op:BinOp)(k:IntKind)(x y:Int):yU:=
 match op with
 | .add=>some (.int k (oQ k (x+y)))
 | .sub=>some (.int k (oQ k (x-y)))
 | .mul=>some (.int k (oQ k (x*y)))
 | .quo=>bif oC y 0 then none else some (.int k (oQ k (x.tdiv y)))
 | .rem=>bif oC y 0 then none else some (.int k (x.tmod y))
 | .and=>some (.int k (oQ k ((BitVec.ofInt k.bits x&&&BitVec.ofInt k.bits y).toNat)))
 | .or=>some (.int k (oQ k ((BitVec.ofInt k.bits x|||BitVec.ofInt k.bits y).toNat)))
 | .xor=>some (.int k (oQ k ((BitVec.ofInt k.bits x^^^BitVec.ofInt k.bits y).toNat)))
 | .andNot=>some (.int k (oQ k ((BitVec.ofInt k.bits x&&& ~~~(BitVec.ofInt k.bits y)).toNat)))
 | .eql=>some (.bool (oC x y))
 | .neq=>some (.bool (!oC x y))
 | .lss=>some (.bool (lT x y))
 | .leq=>some (.bool (!lT y x))
 | .gtr=>some (.bool (lT y x))
 | .geq=>some (.bool (!lT x y))
 |_=>none
def Ql(op:BinOp)(k:IntKind)(x y:Int):yU:=
 match xD y with
 |none=>none
 |some y=>
  let n:=min y k.bits
  match op with
  | .shl=>some (.int k (oQ k (x*2^n)))
  | .shr=>some (.int k (match x with| .ofNat m=> .ofNat (m/2^n)| .negSucc m=>(Int.negSucc m).fdiv (2^n)))
  |_=>none
def eo3(a:UInt8)(ih:qw->Bool)(y:qw):Bool:=match y with
 | []=>false
 |b::y=>bif Nat.beq a.toNat b.toNat then ih y else false
def yq(x:qw):qw->Bool:=List.rec (motive:=λ_=>qw->Bool) List.isEmpty (λa _=>eo3 a) x
def ltN(y:qw):Bool:=match y with
 | []=>false
 |_::_=>true
def ltS(a:UInt8)(ih:qw->Bool)(y:qw):Bool:=match y with
 | []=>false
 |b::y=>bif Nat.blt a.toNat b.toNat then true else bif Nat.beq a.toNat b.toNat then ih y else false
def ii(x:qw):qw->Bool:=List.rec (motive:=λ_=>qw->Bool) ltN (λa _=>ltS a) x
def UI:Nat:=4294967296
def Qv(op:BinOp)(x y:qw):yU:=
 match op with
 | .add=>bif Nat.blt (x.length+y.length) UI then some (.str (x++y))else none
 | .eql=>some (.bool (yq x y))
 | .neq=>some (.bool (!yq x y))
 | .lss=>some (.bool (ii x y))
 | .leq=>some (.bool (!ii y x))
 | .gtr=>some (.bool (ii y x))
 | .geq=>some (.bool (!ii x y))
 |_=>none
def Ks:AV->AK
 | .N=>some true
 | .sl _ _ _ _=>some false
 | .us _ _ _ _=>some false
 | .es _ _ _=>some false
 | .es0=>some false
 |_=>none
def OL:AV->AK
 | .nilm=>some true
 | .map _=>some false
 |_=>none
def Mo:AV->AK
 | .nilf=>some true
 | .func _ _ _=>some false
 | .yield _=>some false
 |_=>none
def lL(P:uV)(t:Bg)(cs:Fz)(off:Nat):yU:=
 match NV P t,eO P t with
 |some true,some n=>bif Nat.ble (off+n) cs.length then some (.agg ((cs.drop off).take n))else none
 |some false,some _=>cs[off]?
 |_,_=>none
def xI(P:uV)(ih:Bg->AV->AV->AK)(xs ys:Fz):abc->AK
 | []=>some true
 |f::r=>bif f.name== "_" then xI P ih xs ys r else match lL P f.type xs f.offset,lL P f.type ys f.offset with
  |some a,some b=>match ih f.type a b with
   |some true=>xI P ih xs ys r
   |x=>x
  |_,_=>none
def JB(P:uV)(ih:Bg->AV->AV->AK)(e n:Nat)(xs ys:Fz):Nat->Nat->AK
 |0,_=>some true
 |k+1,i=>match lL P e xs (i*n),lL P e ys (i*n)with
  |some a,some b=>match ih e a b with
   |some true=>JB P ih e n xs ys k (i+1)
   |x=>x
  |_,_=>none
def dG2(P:uV)(e a o b o':Nat):AK:=match eO P e with
 |some (_+1)=>bif Nat.beq a b then some (Nat.beq o o')else none
 |_=>none
def lV(P:uV)(ih:Bg->AV->AV->AK)(t:Bg)(x y:AV):AK:=
 match P.underlying t with
 |some .bool=>match x,y with
  | .bool a,.bool b=>some (a==b)
  |_,_=>none
 |some (.int _)=>match x,y with
  | .int k a,.int k' b=>if k=k' then some (oC a b)else none
  | .Z k a,.Z k' b=>if k=k' then(bif SX.beq a b then some true else none)else none
  |_,_=>none
 |some .string=>match x,y with
  | .str a,.str b=>some (yq a b)
  | .K a,.K b=>bif SX.beq a b then some true else none
  |_,_=>none
 |some (.pointer e)=>match x,y with
  | .nilp,.nilp=>some true
  | .nilp,.ptr _ _=>some false
  | .ptr _ _,.nilp=>some false
  | .ptr a o,.ptr b o'=>dG2 P e a o b o'
  |_,_=>none
 |some (.interface _)=>match x,y with
  | .nili,.nili=>some true
  | .nili,.iface _ _=>some false
  | .iface _ _,.nili=>some false
  | .iface tx vx,.iface ty vy=>bif Nat.beq tx ty then(match P.info? tx with
   |some i=>bif i.comparable then ih tx vx vy else none
   |none=>none)
   else some false
  |_,_=>none
 |some (.slice _)=>match x,y with
  | .N,b=>Ks b
  |a,.N=>Ks a
  |_,_=>none
 |some (.map _ _)=>match x,y with
  | .nilm,b=>OL b
  |a,.nilm=>OL a
  |_,_=>none
 |some (.func _ _ _)=>match x,y with
  | .nilf,b=>Mo b
  |a,.nilf=>Mo a
  |_,_=>none
 |some (.struct fields)=>match x,y with
  | .agg xs,.agg ys=>bif P.stoodInHeld t then none else xI P ih xs ys fields.toList
  |_,_=>none
 |some (.array len elem)=>match x,y with
  | .agg xs,.agg ys=>match eO P elem with
    |none=>none
    |some n=>JB P ih elem n xs ys len 0
  |_,_=>none
 |_=>none
def eo4(_:Bg)(_ _:AV):AK:=none
def ld(P:uV)(n:Nat):Bg->AV->AV->AK:=Nat.rec (motive:=λ_=>Bg->AV->AV->AK) eo4 (λ_=>lV P) n
def wO:vE->Bool
 | .const _=>true
 |_=>false
def Ss(P:uV)(t:Bg)(x y:vE)(a b:AV):Bool:=
 match a with
 | .nili=>wO x||wO y||(match b with
   | .nili=>false
   | .opq _=>false
   | .any=>false
   |_=>true)
 | .any=>false
 | .agg _=> !(P.eqGuardType P.depth t)
 | .opq _=>false
 |_=>true
def AU(P:uV)(op:BinOp)(t:Bg)(x y:vE)(a b:AV):Bool:=
 match op with
 | .eql| .neq=>Ss P t x y a b
 |_=>true
def ZF(op:BinOp)(k k':IntKind)(a b:Int):yU:=match op with
 | .shl=>Ql .shl k a b
 | .shr=>Ql .shr k a b
 |O=>if k=k' then vD op k a b else none
def xG(P:uV)(op:BinOp)(t:Bg)(x y:AV):yU:=match op with
 | .eql=>(ld P 10000 t x y).map .bool
 | .neq=>(ld P 10000 t x y).map λb=> .bool (!b)
 |_=>none
def TM(op:BinOp)(k:IntKind)(a:Int)(n:Nat):yU:=match op,k with
 | .gtr,.i64=>bif lT (.ofNat n) a then none else some (.bool false)
 |_,_=>none
def Ub(P:uV)(op:BinOp)(t:Bg)(x y:AV):yU:=
 match x with
 | .int k a=>match y with
   | .int k' b=>ZF op k k' a b
   | .atl n=>TM op k a n
   |_=>none
 | .str a=>match y with
   | .str b=>Qv op a b
   |_=>none
 |x=>xG P op t x y
def Pn(op:UnOp)(x:AV):yU:=
 match op,x with
 | .neg,.int k n=>some (.int k (oQ k (0-n)))
 | .xor,.int k n=>vD .xor k (if k.signed then-1 else k.max) n
 | .not,.bool b=>some (.bool !b)
 |_,_=>none
def IX(P:uV)(t:Bg)(a:AV)(h:Heap):yU:=
 match a with
 | .ptr b o=>match h.get b with
   |some (.cells _ _ cs)=>lL P t cs o
   |_=>none
 |_=>none
def lf(cs:Fz)(o:Nat)(vs:Fz):Fz:=cs.take o++vs++cs.drop (o+vs.length)
def putCells(h:Heap)(b o:Nat)(vs:Fz):aaY:=
 match vs with
 | []=>some h
 |vs=>match h.get b with
  |some (.cells e fz cs)=>
   bif Nat.ble h.wm b&&Nat.ble fz o&&Nat.ble (o+vs.length) cs.length&&vs.all AV.one then some (h.put b (some (.cells e fz (lf cs o vs))))else none
  |_=>none
def Kh(P:uV)(t:Bg)(a v:AV)(h:Heap):aaY:=
 match a,eO P t with
 | .ptr b o,some n=>bif v.nt&&Nat.beq v.cells.length n then putCells h b o v.cells else none
 |_,_=>none
def IB(t:Bg)(v:AV)(h:Heap):aat:=
 bif v.cells.all AV.one then some (.ptr h.next 0,h.new (.cells t 0 v.cells))else none
def BC(place:Nat->aaW)(cells:Fz):aav->Option Fz
 | []=>some cells
 |(i,v)::rest=>
  match place i with
  |none=>none
  |some (off,size)=>bif v.nt&&(Nat.beq v.cells.length size&&Nat.ble (off+v.cells.length) cells.length)then BC place (lf cells off v.cells) rest else none
def VI(P:uV)(t:Bg)(parts:aav):yU:=
 match ju P t,P.underlying t with
 |some z,some (.struct fields)=>(BC (λi=>(fields[i]?).bind λf=>(eO P f.type).map λs=>(f.offset,s)) z.cells parts).bind λcs=>
  bif fields.all (λf=>(eO P f.type).isSome)&&z.nt then some (.agg cs)else none
 |some z,some (.array _ elem)=>match eO P elem with
  |some s=>bif z.nt then(BC (λi=>some (i*s,s)) z.cells parts).map .agg else none
  |none=>none
 |_,_=>none
def dP:Nat->Fz->Fz
 |0,_=>[]
 |n+1,l=>l++dP n l
def Bv(P:uV)(t:Bg)(len:Nat)(parts:aav)(h:Heap):aat:=
 match P.underlying t with
 |some (.slice elem)=>match eO P elem,ju P elem with
  |some s,some z=>bif Nat.beq z.cells.length s&&Nat.blt 0 s&&Nat.ble (len*s) 1000000 then
   match BC (λi=>some (i*s,s)) (dP len z.cells) parts with
   |some cs=>bif cs.all AV.one then some (.sl h.next 0 len len,h.new (.cells elem 0 cs))else none
   |none=>none
   else none
  |_,_=>none
 |_=>none
def QE(P:uV)(s:Bg)(a:AV)(f:Nat):yU:=
 match P.underlying s,a with
 |some (.struct fields),.ptr b o=>match fields[f]? with
  |some f=>match eO P f.type with
   |some (_+1)=>some (.ptr b (o+f.offset))
   |_=>none
  |none=>none
 |_,_=>none
def Ru(P:uV)(t:Bg)(x i:AV):yU:=
 match i with
 | .int _ i=>match xD i,P.underlying t,x with
   |some i,some (.array len elem),.ptr b o=>match eO P elem with
    |some s=>bif Nat.blt i len then some (.ptr b (o+i*s))else none
    |none=>none
   |some i,some (.slice elem),.sl b o len _=>match eO P elem with
    |some s=>bif Nat.blt i len then some (.ptr b (o+i*s))else none
    |none=>none
   |some i,some (.slice elem),.us b o len _=>match eO P elem with
    |some s=>bif Nat.blt i len then some (.ptr b (o+i*s))else none
    |none=>none
   |_,_,_=>none
 |_=>none
def RE(P:uV)(t:Bg)(x i:AV):yU:=
 match i with
 | .int _ i=>match xD i,P.underlying t,x with
   |some i,some (.array len elem),.agg cs=>match eO P elem with
    |some s=>bif Nat.blt i len then lL P elem cs (i*s)else none
    |none=>none
   |some i,some .string,.str s=>(s[i]?).map λb=> .int .u8 b.toNat
   |_,_,_=>none
 |_=>none
def eV(x:yU)(d:Nat):Bj:=
 match x with
 |none=>some d
 |some (.int _ i)=>xD i
 |some _=>none
def Xl(P:uV)(t:Bg)(x:AV)(lo hi mx:yU)(h:Heap):yU:=
 match P.underlying t,x with
 |some .string,.str s=>match eV lo 0,eV hi s.length,mx with
  |some l,some e,none=>bif Nat.ble l e&&Nat.ble e s.length then some (.str ((s.drop l).take (e-l)))else none
  |_,_,_=>none
 |some (.slice elem),.N=>match eV lo 0,eV hi 0,eV mx 0,eO P elem with
  |some 0,some 0,some 0,some _=>some .N
  |_,_,_,_=>none
 |some (.slice elem),.es b o sz=>match eV lo 0,eV hi 0,mx,eO P elem with
  |some 0,some 0,none,some _=>some (.es b o sz)
  |some 0,some 0,some m,some _=>match eV (some m) 0 with
   |some 0=>some .es0
   |_=>none
  |_,_,_,_=>none
 |some (.slice elem),.es0=>match eV lo 0,eV hi 0,eV mx 0,eO P elem with
  |some 0,some 0,some 0,some _=>some .es0
  |_,_,_,_=>none
 |some (.slice elem),.sl b o len cap=>match eV lo 0,eV hi len,eV mx cap,eO P elem with
  |some l,some e,some m,some s=>bif Nat.ble l e&&Nat.ble e m&&Nat.ble m cap then some (.sl b (bif Nat.beq m l then o else o+l*s) (e-l) (m-l))else none
  |_,_,_,_=>none
 |some (.slice elem),.us b o len sz=>match eV lo 0,eV hi len,eO P elem,h.get b with
  |some l,some e,some s,some (.cells _ _ cs)=>bif Nat.beq s sz&&Nat.ble l e&&Nat.blt 0 s&&Nat.ble (o+e*s) cs.length then
   (match mx with
   |none=>bif Nat.blt (o+l*s) cs.length||Nat.beq l 0 then some (.us b (o+l*s) (e-l) sz)else some (.es b (o+l*s) sz)
   |some m=>match eV (some m) 0 with
    |some m=>bif Nat.ble e m&&Nat.ble (o+m*s) cs.length then some (.sl b (bif Nat.beq m l then o else o+l*s) (e-l) (m-l))else none
    |none=>none)
   else none
  |_,_,_,_=>none
 |some (.array n elem),.ptr b o=>match eV lo 0,eV hi n,eV mx n,eO P elem with
  |some l,some e,some m,some s=>bif Nat.ble l e&&Nat.ble e m&&Nat.ble m n then some (.sl b (bif Nat.beq m l then o else o+l*s) (e-l) (m-l))else none
  |_,_,_,_=>none
 |_,_=>none
def Be(s n:Nat)(x:AV)(h:Heap):Option Fz:=
 match x with
 | .N=>bif Nat.beq n 0 then some []else none
 | .es _ _ _| .es0=>bif Nat.beq n 0 then some []else none
 | .str l=>some ((l.take n).map λb=> .int .u8 b.toNat)
 | .sl b o _ _| .us b o _ _=>match h.get b with
   |some (.cells _ _ cs)=>bif Nat.ble (o+n*s) cs.length&&((cs.drop o).take (n*s)).all AV.one then some ((cs.drop o).take (n*s))else none
   |_=>none
 |_=>none
def ik:AV->Bj
 | .N| .es _ _ _| .es0=>some 0
 | .str l=>some l.length
 | .sl _ _ n _| .us _ _ n _=>some n
 |_=>none
def room:Nat:=1000000
def vY(s:Nat)(y:AV)(h:Heap):Option (Nat×Fz):=
 match ik y with
 |some n=>(Be s n y h).bind λl=>bif Nat.beq l.length (n*s)then some (n,l)else none
 |none=>none
def Zo(z:Fz)(y:AV):Option (Nat×Fz):=
 match y with
 | .int _ m=>match xD m with
   |some n=>bif Nat.ble n room&&z.all AV.one&&Nat.blt 0 z.length then some (n,dP n z)else none
   |none=>none
 |_=>none
def SL(P:uV)(yt:Bg)(s:Nat)(z:Fz)(y:AV)(h:Heap):Option (Nat×Fz):=
 match P.underlying yt with
 |some (.slice _)=>vY s y h
 |some .string=>vY s y h
 |some (.int _)=>Zo z y
 |_=>none
def Tu(elem s:Nat)(x:AV)(n:Nat)(new:Fz)(h:Heap):aat:=
 match x with
 | .N=>some (.us h.next 0 n s,h.new (.cells elem 0 new))
 | .es0=>some (.us h.next 0 n s,h.new (.cells elem 0 new))
 | .sl b o len cap=>
   bif Nat.ble (len+n) cap then(putCells h b (o+len*s) new).map λh'=>(.sl b o (len+n) cap,h')
   else(Be s len x h).bind λold=>bif Nat.beq old.length (len*s)then some (.us h.next 0 (len+n) s,h.new (.cells elem 0 (old++new)))else none
 | .us b o len sz=>bif !(Nat.beq s sz)then none else match h.get b with
   |some (.cells e fz cs)=>
    bif Nat.ble (o+(len+n)*s) cs.length then(putCells h b (o+len*s) new).map λh'=>(.us b o (len+n) s,h')
    else bif Nat.ble h.wm b&&Nat.ble fz (o+len*s)&&Nat.ble (o+len*s) cs.length&&Nat.beq e elem then
     some (.us h.next 0 (len+n) s,(h.put b none).new (.cells e (fz-o) ((cs.drop o).take (len*s)++new)))
    else none
   |_=>none
 | .es b o sz=>bif !(Nat.beq s sz)then none else match h.get b with
   |some (.cells e fz cs)=>
    bif Nat.ble h.wm b&&Nat.ble fz o&&Nat.beq e elem then some (.us h.next 0 n s,(h.put b none).new (.cells e 0 new))else none
   |_=>none
 |_=>none
def Xu(s:Nat)(x:AV)(h:Heap):Bool:=
 match x with
 | .N=>true
 | .es _ _ _=>true
 | .es0=>true
 | .sl _ _ l c=>Nat.ble l c
 | .us b o l sz=>Nat.beq s sz&&(match h.get b with
   |some (.cells _ _ cs)=>Nat.ble (o+l*s) cs.length
   |_=>false)
 |_=>false
def gi(P:uV)(t:Bg):Bool:=match P.underlying t with
 |some (.struct fs)=>match fs[0]? with
  |some f=>match P.underlying f.type with
   |some (.pointer u)=>Nat.beq u t
   |_=>false
  |none=>false
 |_=>false
def Wu(P:uV)(argTypes:Array Bg)(x y:AV)(h:Heap):aat:=
 match(argTypes[0]?).bind P.underlying,argTypes[1]? with
 |some (.slice elem),some yt=>match ik x,P.info? elem,ju P elem with
  |some lx,some i,some z=>
   match SL P yt i.size z.cells y h with
   |none=>none
   |some (n,new)=>
    bif Nat.blt 0 i.size&&Nat.beq z.cells.length i.size&&Nat.ble (lx+n) room&&Nat.ble i.bytes 1000&&Nat.beq argTypes.size 2&& !(gi P elem)then
     (bif Nat.beq n 0 then(bif Xu i.size x h then some (x,h)else none)else Tu elem i.size x n new h)
    else none
  |_,_,_=>none
 |_,_=>none
def d72(x:AV)(n:Nat)(new:Fz)(h:Heap):aat:=
 match x with
 | .N=>some (.int .i64 n,h)
 | .es _ _ _=>some (.int .i64 n,h)
 | .es0=>some (.int .i64 n,h)
 | .sl b o _ _=>(putCells h b o new).map λh'=>(.int .i64 n,h')
 | .us b o _ _=>(putCells h b o new).map λh'=>(.int .i64 n,h')
 |_=>none
def Wv(P:uV)(argTypes:Array Bg)(x y:AV)(h:Heap):aat:=
 match(argTypes[0]?).bind P.underlying with
 |some (.slice elem)=>match eO P elem,ik x,ik y with
  |some s,some lx,some ly=>(Be s (Nat.min ly lx) y h).bind λnew=>d72 x (Nat.min ly lx) new h
  |_,_,_=>none
 |_=>none
def Hd:AV->AV->Bool
 | .bool a,.bool b=>a==b
 | .int k a,.int k' b=>(k==k')&&oC a b
 | .str a,.str b=>yq a b
 |_,_=>false
def SU:Fz->Fz->Bool
 | [],[]=>true
 |a::x,b::y=>Hd a b&&SU x y
 |_,_=>false
def Mr:AV->AV->Bool
 | .agg xs,.agg ys=>SU xs ys
 |x,y=>Hd x y
end
noncomputable section
inductive Ext where
 |ident|count|indexByte|mapsClone|makeNoZero (t:Bg)|overlaps (t r:Bg)
inductive FK where
 |bin (op:BinOp)|un (op:UnOp)|conv (d:Bg)|len|max|min|slc
 deriving DecidableEq
structure LHd where
 id:Nat
 s0:Jn
 v0:Nat
 fv:Jn
inductive VT where
 |X
 |J (e:SX) (a b:VT)
 |N (e:SX) (x:VT)
 |W (i:Nat) (out:Jn)
 |loop (hd:LHd) (body:VT) (ks:List VT)
 |both (a b:VT)
 |mloop (hd:LHd) (l:SX) (body:VT) (ks:List VT)
 deriving Inhabited
abbrev abg:= List VT
inductive Ex where
 |norm|exit (id:Nat)|ret
structure StP where
 slots:aav
 blks:List (Nat×sP)
 next:Nat
structure OwnP where
 slot:Nat
 blk:Nat
 elem:Nat
 sig:zd
 cell:aaW
 lz:Bool
abbrev aaM:= List OwnP
structure LSpec where
 id:Nat
 owns:aaM
 v0:Nat
 fv:Jn
 dead:HQ
 head:StP
 exits:List (Ex×StP)
 mapr:Bool:=false
structure Fr where
 tm:TF
 nt:Nat
 pc:aaR
 fn:FuncId
 ds:aaH
 ro:Bj
abbrev aaQ:= Option (Fr×Heap)
def Fr.slot(a:Fr)(t:Nat):AV:=(Gg t).g a.tm
def sj(d:Nat)(v:AV)(tm:TF)(nt:Nat)(pc:aaR)(fn:FuncId)(ds:aaH)(ro:Bj):Fr:=bif Nat.blt d nt then⟨tm.set d v,nt,pc,fn,ds,ro⟩else⟨tm,nt,pc,fn,ds,ro⟩
def e26(p:SX×Bool)(tm:TF)(nt:Nat)(pc:aaR)(fn:FuncId)(ds:aaH)(ro:Bj):Fr:=⟨tm,nt,p::pc,fn,ds,ro⟩
def dG3(tm:TF)(nt:Nat)(pc:aaR)(fn:FuncId)(ds:aaH)(ro:Bj):Fr:=⟨tm,nt,[],fn,ds,ro⟩
def e27(x:Bj)(tm:TF)(nt:Nat)(pc:aaR)(fn:FuncId)(ds:aaH)(ro:Bj):Fr:=⟨tm,nt,pc,fn,ds,x⟩
def Fr.back(a:Fr)(x:Bj):Fr:=Fr.rec (e27 x) a
def e28(m:aaH)(tm:TF)(nt:Nat)(pc:aaR)(fn:FuncId)(ds:aaH)(ro:Bj):Fr:=⟨tm,nt,pc,fn,m++ds,ro⟩
def Fr.mark(a:Fr)(m:aaH):Fr:=Fr.rec (e28 m) a
def Fr.clear(a:Fr):Fr:=Fr.rec dG3 a
def Fr.cond(a:Fr)(p:SX×Bool):Fr:=Fr.rec (e26 p) a
def cj8(p:Prim)(l:Jn)(d:Int):AK:=match p,l with
 | .imin,[_,.C c]=>none
 |_,_=>none
def cj9(p:Prim)(l:Jn):AK:=match p,l with
 | .cmp .lss,[.O q x,.C d]=>cj8 q x d
 |_,_=>none
def Pc(e:SX):AK:=match e with
 | .O p l=>cj9 p l
 |_=>none
def AH(e:SX):aaR->AK
 | []=>Pc e
 |p::r=>bif SX.beq e p.1 then some p.2 else AH e r
def Fr.put(a:Fr)(dst:aaJ)(v:AV):Fr:=
 match dst with
 |none=>a
 |some d=>Fr.rec (sj d v) a
def Fr.ev(a:Fr):vE->yU
 | .tmp t=>some (a.slot t)
 | .const v=>Bt v
 | .global g=>none
 | .func f=>some (.func (.func f) [] [])
inductive Res where
 |val (v:AV) (h:Heap)
 |N (e:SX) (v:AV) (h:Heap)
 |cho (e:SX) (v:AV) (l:Fz) (h:Heap)
 |enter (f:FuncId) (args:Fz)
 |choice (l:List (AV×Heap))
 |yield (l:Nat) (args:Fz)
 |defer (d:ADef)
 |X
structure Env where
 P:uV
 ext:FuncId->Option Ext
 amb:FuncId->Bool
 caps:FuncId->Bool
 hook:FuncId->Fz->Heap->Res
 fact:FK->Fz->yU
 lspec:FuncId->Nat->Fr->Heap->Option LSpec
def evs(ρ:vE->yU):List vE->Option Fz
 | []=>some []
 |x::r=>match ρ x,evs ρ r with
  |some v,some vs=>some (v::vs)
  |_,_=>none
def jy(ρ:vE->yU):List (Nat×vE)->Option aav
 | []=>some []
 |(i,x)::r=>match ρ x,jy ρ r with
  |some v,some vs=>some ((i,v)::vs)
  |_,_=>none
def fe(ρ:vE->yU):Option vE->Option yU
 |none=>some none
 |some x=>(ρ x).map some
def ov(x:yU)(h:Heap):Res:=match x with
 |some v=> .val v h
 |none=> .X
def oh(x:aat):Res:=match x with
 |some (v,h)=> .val v h
 |none=> .X
def os(x:aaY):Res:=match x with
 |some h=> .val .undef h
 |none=> .X
def Qf(P:uV)(t:Bg):Bool:=match P.underlying t with
 |some .bool=>false
 |some (.int _)=>true
 |some .string=>true
 |_=>false
def ue(P:uV)(t:Bg)(k:AV):Bool:=
 match P.underlying t,k with
 |some .bool,.bool _=>false
 |some (.int _),.int _ _=>false
 |some .string,.str _=>false
 |some (.struct fields),.agg cs=>fields.all λf=>(lL P f.type cs f.offset).isSome&&Qf P f.type
 |_,_=>false
def pJ(P:uV)(kt:Bg)(k:AV):aaO->Nat->Option aa5
 | [],_=>some none
 |e::r,i=>match ld P 10000 kt k e.key with
  |some true=>some (some (i,e))
  |some false=>pJ P kt k r (i+1)
  |none=>none
def LM:aaO->Nat->Ent->aaO
 | [],_,_=>[]
 |_::r,0,x=>x::r
 |e::r,i+1,x=>e::LM r i x
def Us(m:AV)(h:Heap):Option aaO:=
 match m with
 | .nilm=>none
 | .map r=>match h.get r with
   |some (.map es _)=>some es
   |_=>none
 |_=>none
def ON(P:uV)(t:Bg)(m k:AV)(ok:Bool)(h:Heap):yU:=
 match P.underlying t with
 |some (.map kt et)=>bif ue P kt k then
  match Us m h with
  |none=>none
  |some es=>match pJ P kt k es 0 with
   |none=>none
   |some (some (_,e))=>some (bif ok then .V [e.val,.bool true]else e.val)
   |some none=>(ju P et).map λz=>bif ok then .V [z,.bool false]else z
  else none
 |_=>none
def Nh(P:uV)(t:Bg)(m k v:AV)(h:Heap):aaY:=
 match P.underlying t,m with
 |some (.map kt _),.map r=>bif ue P kt k&&Nat.ble h.wm r then
  match h.get r with
  |some (.map es c)=>match pJ P kt k es 0 with
   |none=>none
   |some (some (i,e))=>bif Mr e.key k then some (h.put r (some (.map (LM es i ⟨k,v,e.born⟩) c)))else none
   |some none=>some (h.put r (some (.map (es++[⟨k,v,c⟩]) (c+1))))
  |_=>none
  else none
 |_,_=>none
def NE(b:Nat):aaO->Nat->aa5
 | [],_=>none
 |e::r,i=>bif Nat.beq e.born b then some (i,e)else NE b r (i+1)
def Ti(P:uV)(t:Bg)(m k:AV)(h:Heap):aaY:=
 match P.underlying t,m with
 |some (.map kt _),.map r=>bif ue P kt k&&Nat.ble h.wm r then
  match h.get r with
  |some (.map es c)=>none
  |_=>none
  else none
 |_,_=>none
def MN(P:uV)(t:Bg)(x:AV)(h:Heap):aat:=
 match P.underlying t,x with
 |some .string,.str l=>none
 |some (.map _ _),.nilm=>none
 |some (.map _ _),.map m=>match h.get m with
  |some (.map _ c)=>some (.ptr h.next 0,h.new (.mapIter (some m) c [] c))
  |some (.marr d ks vs l)=>some (.ptr h.next 0,(h.new (.mit m)).put m (some (.mrg h.next d ks vs l)))
  |_=>none
 |_,_=>none
def tX(es:aaO)(seen:HQ):aaO:=es.filter λe=> !(seen.contains e.born)
def dG4(r m since:Nat)(seen:HQ)(c:Nat)(h:Heap)(left:aaO):Res:=
 match left with
 | []=> .val (.V [.bool false]) h
 |left=> .choice (left.map λe=>(.V [.bool true,e.key,e.val],h.put r (some (.mapIter (some m) since (seen++[e.born]) c))))
def Hz(it:AV)(Iy:Bool)(h:Heap):Res:=
 match it,Iy with
 | .ptr r 0,true=> .X
 | .ptr r 0,false=>match h.get r with
   |some (.mapIter none _ _ _)=> .X
   |some (.mapIter (some m) since seen last)=>match h.get m with
    |some (.map es c)=>
     bif Nat.ble h.wm r&& !(!seen.isEmpty&& !es.isEmpty&&es.all (λe=>Nat.ble last e.born))&& !((tX es seen).any (λe=>Nat.ble since e.born))then dG4 r m since seen c h (tX es seen)else .X
    |_=> .X
   |_=> .X
 |_,_=> .X
def Ry:HQ->Bj
 | []=>none
 | [x]=>some x
 |_::r=>Ry r
def Ob(it:AV)(h:Heap):yU:=
 match it with
 | .ptr r 0=>match h.get r with
   |some (.mapIter (some m) _ seen stepped)=>match Ry seen,h.get m with
    |some s,some (.map es c)=>bif Nat.beq c stepped then(NE s es 0).map λx=> .V [x.2.key,x.2.val]else none
    |_,_=>none
   |_=>none
 |_=>none
def d73(P:uV)(asserted:Bg)(ok:Bool):yU:=bif ok then(ju P asserted).map λz=> .V [z,.bool false]else none
def Rw(ok:Bool)(v:AV):yU:=some (bif ok then .V [v,.bool true]else v)
def Ma(P:uV)(x:AV)(asserted:Bg)(ok:Bool):yU:=
 match P.underlying asserted with
 |some (.interface _)=>none
 |some _=>match x with
  | .nili=>none
  | .iface t v=>bif Nat.beq t asserted then Rw ok v else d73 P asserted ok
  |_=>none
 |none=>none
def XO(P:uV)(s d:Bg)(x:AV)(h:Heap):aat:=match P.underlying s,P.underlying d,x with
 |some .string,some (.slice e),.str l=>none
 |_,_,_=>none
def EL(P:uV)(s d:Bg)(x:AV)(h:Heap):aat:=
 match P.underlying s,P.underlying d,x with
 |some _,some (.int k),.int _ n=>some (.int k (oQ k n),h)
 |some _,some .string,.str l=>none
 |some (.slice e),some .string,x=>none
 |some (.pointer t),some .unsafePointer,.ptr b o=>none
 |some .unsafePointer,some (.pointer t),.ptr b o=>none
 |_,_,_=>none
def Ra(c:Nat):qw->Nat
 | []=>0
 |x::r=>bif Nat.beq x.toNat c then Ra c r+1 else Ra c r
def e29(c:Nat):qw->Nat->Bj
 | [],_=>none
 |x::r,i=>none
def dG5(c:Nat)(l:qw):Int:=match e29 c l 0 with
 |some i=>(i:Int)
 |none=> -1
def Hp(P:uV)(e:Ext)(args:Fz)(h:Heap):aat:=
 match e,args with
 | .mapsClone,[.iface t (.map r)]=>match h.get r with
   |some (.map es c)=>some (.iface t (.map h.next),h.new (.map es c))
   |some (.marr d ks vs l)=>some (.iface t (.map h.next),h.new (.marr d ks vs l))
   |_=>none
 | .ident,[x]=>none
 | .count,[.str l,.int .u8 c]=>none
 | .indexByte,[.str l,.int .u8 c]=>none
 |_,_=>none
def Iy:AV->Bool
 | .str _=>true
 |_=>false
def XG(P:uV)(t:aa7)(x:AV)(h:Heap):Bj:=match t with
 |some .string=>match x with
  | .str l=>some l.length
  |_=>none
 |some (.slice _)=>bif Iy x then none else ik x
 |some (.map _ _)=>none
 |_=>none
def GG(P:uV)(elem:Bg)(b o n:Nat)(h:Heap):aat:=match n with
 |0=>some (.undef,h)
 |n=>match ju P elem with
  |some z=>bif Nat.blt 0 z.cells.length then(putCells h b o (dP n z.cells)).map λh'=>(.undef,h')else none
  |none=>none
def Xe(P:uV)(t:aa7)(x:AV)(h:Heap):aat:=match t with
 |some (.slice elem)=>match x with
  | .N=>none
  | .sl b o n _=>none
  | .us b o n _=>GG P elem b o n h
  |_=>none
 |some (.map _ _)=>none
 |_=>none
def gu(x:AV)(h:Heap):yU:=match x with
 | .N=>none
 | .es0=>none
 | .sl _ _ _ c=>some (.int .i64 c)
 | .us b o _ sz=>match h.get b with
   |some (.cells _ _ cs)=>bif Nat.blt 0 sz&&Nat.ble o cs.length then some (.atl ((cs.length-o)/sz))else none
   |_=>none
 |_=>none
def Iq(P:uV)(b:Builtin)(argTypes:Array Bg)(args:Fz)(h:Heap):aat:=
 match b,args with
 | .len,[x]=>(XG P ((argTypes[0]?).bind P.underlying) x h).map λ(n:Nat)=>(AV.int .i64 (n:Int),h)
 | .append,[x,y]=>Wu P argTypes x y h
 | .copy,[x,y]=>Wv P argTypes x y h
 | .clear,[x]=>Xe P ((argTypes[0]?).bind P.underlying) x h
 | .delete,[m,k]=>match argTypes[0]? with
   |some t=>(Ti P t m k h).map λh'=>(.undef,h')
   |none=>none
 | .cap,[x]=>match(argTypes[0]?).bind P.underlying with
   |some (.slice _)=>(gu x h).map λv=>(v,h)
   |_=>none
 | .max,[.int k x,.int _ y]=>some (.int k (bif lT x y then y else x),h)
 | .min,[.int k x,.int _ y]=>some (.int k (bif lT y x then y else x),h)
 |_,_=>none
def Ee(x:AV):aaW:=match x with
 | .sl b o _ _=>some (b,o)
 | .us b o _ _=>some (b,o)
 |_=>none
def Yc(a b:aaW)(h:Heap):Bool:=match a,b with
 |some p,some q=> !(Nat.beq p.1 q.1)&&(match h.get p.1,h.get q.1 with
  |some (.cells _ fz cs),some (.cells _ _ _)=>Nat.ble fz p.2&&Nat.blt p.2 cs.length
  |_,_=>false)
 |_,_=>false
def Ds(t:Bg)(P:uV)(args:Fz)(h:Heap):Res:=match args with
 | [x,y]=>match P.underlying t with
   |some (.slice e)=>match eO P e with
    |some _=>bif Yc (Ee x) (Ee y) h then .choice [(.bool false,h),(.bool true,h)]else .X
    |none=> .X
   |_=> .X
 |_=> .X
def eg3(P:uV)(e:Ext)(args:Fz)(h:Heap):Res:=match e with
 | .overlaps t _=>Ds t P args h
 |e=>oh (Hp P e args h)
def eg4(P:uV)(e:Ext)(args:Fz)(h:Heap):Res:= .X
def orY(r s:Res):Res:=match r with
 | .X=> .X
 |r=>r
def Eh(E:Env)(f:FuncId)(args:Fz)(h:Heap):Res:=
 match E.P.funcs[f]? with
 |none=> .X
 |some fn=>match fn.body with
  |some _=> .enter f args
  |none=>match E.ext f with
   |some e=>orY (eg3 E.P e args h) (eg4 E.P e args h)
   |none=> .X
def Yk(E:Env)(f:AV)(args:Fz)(h:Heap):Res:=
 match f with
 | .func (.func f) first cap=>Eh E f (first++args++cap) h
 | .func (.method name) first _=> .X
 | .yield l=> .X
 |_=> .X
def LZ(x:AV):yU:=
 match x with
 | .nilp| .nili| .nilf=>none
 | .opq _=>none
 | .any=>none
 | .func (.method _) _ _=>none
 |x=>some x
def MJ(E:Env)(x:yU)(k:FK)(vs:Fz):yU:=match x with
 |some v=>some v
 |none=>E.fact k vs
def Ca(ρ:vE->yU)(a b:vE)(h:Heap)(c:yU):Res:=match c with
 |some (.bool t)=>ov (bif t then ρ a else ρ b) h
 |_=> .X
def wv(e:Bg)(h:Heap)(v:yU):Res:=match v with
 |some z=>oh (IB e z h)
 |none=> .X
def Qn(P:uV)(t:Bg)(h:Heap)(ps:Option aav):Res:=match ps with
 |some ps=>ov (VI P t ps) h
 |none=> .X
def Eu(P:uV)(t n:Nat)(h:Heap)(ps:Option aav):Res:=match ps with
 |some ps=>oh (Bv P t n ps h)
 |none=> .X
def VA(P:uV)(t:Bg)(h:Heap)(a:yU):Res:=match a with
 |some a=>ov (IX P t a h) h
 |none=> .X
def Rz(P:uV)(t:Bg)(h:Heap)(a v:yU):Res:=match a with
 |some a=>match v with
  |some v=>os (Kh P t a v h)
  |none=> .X
 |none=> .X
def df8(P:uV)(h:Heap)(name:String)(first cap:Fz):Res:=match first with
 | .iface t v::rest=> .X
 |_=> .X
def Ea(P:uV)(h:Heap)(a:yU):Res:=match a with
 |some (.func (.method name) first cap)=> .X
 |some a=>ov (LZ a) h
 |none=> .X
def EC(E:Env)(op:BinOp)(t:Bg)(x y:vE)(h:Heap)(a b:yU):Res:=match a with
 |some a=>match b with
  |some b=>bif AU E.P op t x y a b then ov (MJ E (Ub E.P op t a b) (.bin op) [a,b]) h else .X
  |none=> .X
 |none=> .X
def Yf(E:Env)(op:UnOp)(h:Heap)(a:yU):Res:=match a with
 |some a=>ov (MJ E (Pn op a) (.un op) [a]) h
 |none=> .X
def EI(E:Env)(s d:Bg)(h:Heap)(a:yU):Res:=match a with
 |some a=>match EL E.P s d a h with
  |some r=> .val r.1 r.2
  |none=>match XO E.P s d a h with
   |some r=> .X
   |none=>ov (E.fact (.conv d) [a]) h
 |none=> .X
def EK(P:uV)(t:Bg)(h:Heap)(a:yU):Res:=match a with
 |some v=>match P.underlying t with
  |some (.interface _)=> .X
  |some _=> .val (.iface t v) h
  |none=> .X
 |none=> .X
def EJ(fn:Fn)(h:Heap)(a b:Option Fz):Res:=match a with
 |some a=>match b with
  |some b=>match fn with
   | .yield _=> .X
   |fn=> .val (.func fn a b) h
  |none=> .X
 |none=> .X
def wL(P:uV)(t:Bg)(h:Heap)(r:Option yU):Res:=match P.underlying t with
 |some (.map _ _)=>match r with
  |some none=> .val (.map h.next) (h.new (.map [] 0))
  |some (some (.int _ _))=> .X
  |_=> .X
 |_=> .X
def ca3(P:uV)(t:Bg)(h:Heap)(l c:yU):Res:=match l with
 |some l=> .X
 |none=> .X
def DW(E:Env)(t:Bg)(h:Heap)(x:yU)(lo hi mx:Option yU):Res:=match x with
 |some x=>match lo with
  |some lo=>match hi with
   |some hi=>match mx with
    |some mx=>bif hi.isNone&&mx.isSome then .X else ov (Xl E.P t x lo hi mx h) h
    |none=> .X
   |none=> .X
  |none=> .X
 |none=> .X
def dG7(P:uV)(t:Bg)(f:Nat)(h:Heap)(a:yU):Res:=match a with
 |some a=> .X
 |none=> .X
def bd9(P:uV)(t:Bg)(f:Nat)(h:Heap)(a:yU):Res:=match a with
 |some a=>ov (QE P t a f) h
 |none=> .X
def s2(F:AV->AV->yU)(h:Heap)(a b:yU):Res:=match a with
 |some a=>match b with
  |some b=>ov (F a b) h
  |none=> .X
 |none=> .X
def WL(F:AV->AV->AV->aaY)(a b c:yU):Res:=match a with
 |some a=>match b with
  |some b=>match c with
   |some c=>os (F a b c)
   |none=> .X
  |none=> .X
 |none=> .X
def s2h(F:AV->AV->aat)(a b:yU):Res:=match a with
 |some a=> .X
 |none=> .X
def Yx(F:AV->aat)(a:yU):Res:=match a with
 |some a=>oh (F a)
 |none=> .X
def Gj(F:AV->Res)(a:yU):Res:=match a with
 |some a=>F a
 |none=> .X
def s1(F:AV->yU)(h:Heap)(a:yU):Res:=match a with
 |some a=>ov (F a) h
 |none=> .X
def MI(i:Nat)(x:AV):yU:=match x with
 | .V vs=>vs[i]?
 |_=>none
def Ck(E:Env)(b:Builtin)(ts:Array Bg)(h:Heap)(args:Fz):Res:=match Iq E.P b ts args h with
 |some r=> .val r.1 r.2
 |none=>match b with
  | .len=>ov (E.fact .len args) h
  | .max=>ov (E.fact .max args) h
  | .min=>ov (E.fact .min args) h
  |_=> .X
def wV(E:Env)(ρ:vE->yU)(c:Call)(h:Heap)(args:Option Fz):Res:=match args with
 |none=> .X
 |some args=>match c.callee with
  | .builtin b=>Ck E b c.argTypes h args
  | .invoke rc name=> .X
  | .value f=>Gj (λf=>Yk E f args h) (ρ f)
def oE(E:Env)(ρ:vE->yU)(o:Oper)(h:Heap):Res:=
 match o.op with
 | .move x=>ov (ρ x) h
 | .assign x=>ov (ρ x) h
 | .pick c a b=>Ca ρ a b h (ρ c)
 | .alloc e=>wv e h (ju E.P e)
 | .box e x=>wv e h (ρ x)
 | .build t ps=>Qn E.P t h (jy ρ ps.toList)
 | .buildSlice t n ps=>Eu E.P t n h (jy ρ ps.toList)
 | .load t a=>VA E.P t h (ρ a)
 | .store t a x=>Rz E.P t h (ρ a) (ρ x)
 | .nilCheck x=>Ea E.P h (ρ x)
 | .binOp op t x y _=>EC E op t x y h (ρ x) (ρ y)
 | .unOp op _ x=>Yf E op h (ρ x)
 | .convert s d x=>EI E s d h (ρ x)
 | .makeInterface t x=>EK E.P t h (ρ x)
 | .makeFunc fn first cap=>EJ fn h (evs ρ first.toList) (evs ρ cap.toList)
 | .makeMap t r=>wL E.P t h (fe ρ r)
 | .makeSlice t l c=> .X
 | .slice t x lo hi mx=>DW E t h (ρ x) (fe ρ lo) (fe ρ hi) (fe ρ mx)
 | .fieldAddr s x f=>bd9 E.P s f h (ρ x)
 | .field t x f=> .X
 | .indexAddr t x i=>s2 (Ru E.P t) h (ρ x) (ρ i)
 | .index t x i=>s2 (RE E.P t) h (ρ x) (ρ i)
 | .lookup t x i ok=>s2 (λa i=>ON E.P t a i ok h) h (ρ x) (ρ i)
 | .mapUpdate t m k x=>WL (λm k v=>Nh E.P t m k v h) (ρ m) (ρ k) (ρ x)
 | .insert t m k x=> .X
 | .mapEntry t m k=> .X
 | .entryStore _ m s x=> .X
 | .range t x=>Yx (λa=>MN E.P t a h) (ρ x)
 | .next it s=>Gj (λa=>Hz a s h) (ρ it)
 | .entry it=>s1 (λa=>Ob a h) h (ρ it)
 | .typeAssert x _ t ok=>s1 (λa=>Ma E.P a t ok) h (ρ x)
 | .extract t i=>s1 (MI i) h (ρ t)
 | .call c=>wV E ρ c h (evs ρ c.args.toList)
 | .defer c=> .X
 |_=> .X
def kr:AV->abf
 | .int k n=>some (k,.C n)
 | .Z k e=>some (k,e)
 |_=>none
def pI:AV->aaD
 | .str l=>some (.cs l)
 | .K e=>some e
 |_=>none
def nl:AV->aaD
 | .bool b=>some (.cb b)
 | .H e=>some e
 |_=>none
def Qj(op:BinOp)(k k':IntKind)(a b:SX)(h:Heap):Res:=match op with
 | .shl=> .N (.O (.cmp .leq) [.C 0,b]) (.Z k (.O (.ar .shl k) [a,b])) h
 | .shr=> .N (.O (.cmp .leq) [.C 0,b]) (.Z k (.O (.ar .shr k) [a,b])) h
 | .quo=>if k=k' then .N (.O (.cmp .neq) [b,.C 0]) (.Z k (.O (.ar .quo k) [a,b])) h else .X
 | .rem=>if k=k' then .N (.O (.cmp .neq) [b,.C 0]) (.Z k (.O (.ar .rem k) [a,b])) h else .X
 | .add| .sub| .mul| .and| .or| .xor| .andNot=>if k=k' then .val (.Z k (.O (.ar op k) [a,b])) h else .X
 | .eql| .neq| .lss| .leq| .gtr| .geq=>if k=k' then .val (.H (.O (.cmp op) [a,b])) h else .X
def eg5:Int:=4294967296
def jo(a b:SX):SX:= .O .iadd [a,b]
def Lt(op:BinOp)(a b:SX)(h:Heap):Res:=match op with
 | .eql| .neq| .lss| .leq| .gtr| .geq=> .val (.H (.O (.scmp op) [a,b])) h
 | .add=> .X
 |_=> .X
def RB(P:uV)(t:Bg):Bool:=match P.underlying t with
 |some .bool=>true
 |_=>false
def XK(P:uV)(op:BinOp)(t:Bg)(a b:SX)(h:Heap):Res:=match op with
 | .eql=> .X
 | .neq=>bif RB P t then .val (.H (.O .not [.O .beq [a,b]])) h else .X
 |_=> .X
def iC(a b:SX):SX:=match a with
 | .cb true=>b
 |_=>match b with
  | .cb true=>a
  |_=> .O .and [a,b]
def CZ(P:uV)(ih:Bg->AV->AV->aaD)(xs ys:Fz):abc->aaD
 | []=>some (.cb true)
 |f::r=>bif f.name== "_" then CZ P ih xs ys r else match lL P f.type xs f.offset,lL P f.type ys f.offset with
  |some a,some b=>match ih f.type a b with
   |some e=>match CZ P ih xs ys r with
    |some e'=>some (iC e e')
    |none=>none
   |none=>none
  |_,_=>none
def d76(k k':IntKind)(a b:SX):aaD:=if k=k' then some (.O (.cmp .eql) [a,b])else none
def XX(P:uV)(ih:Bg->AV->AV->aaD)(t:Bg)(x y:AV):aaD:=
 match P.underlying t with
 |some .bool=>match nl x,nl y with
  |some a,some b=>some (.O .beq [a,b])
  |_,_=>none
 |some (.int _)=>match kr x,kr y with
  |some (k,a),some (k',b)=>d76 k k' a b
  |_,_=>none
 |some .string=>match pI x,pI y with
  |some a,some b=>some (.O (.scmp .eql) [a,b])
  |_,_=>none
 |some (.struct fields)=>match x,y with
  | .agg xs,.agg ys=>bif P.stoodInHeld t then none else CZ P ih xs ys fields.toList
  |_,_=>none
 |_=>none
def e31(_:Bg)(_ _:AV):aaD:=none
def GV(P:uV)(n:Nat):Bg->AV->AV->aaD:=Nat.rec (motive:=λ_=>Bg->AV->AV->aaD) e31 (λ_=>XX P) n
def yi(P:uV)(t:Bg):Bool:=match P.underlying t with
 |some (.slice _)=>true
 |_=>false
def Lf(P:uV)(op:BinOp)(t:Bg)(len:SX)(y:AV)(h:Heap):Res:=match y with
 | .N=>bif yi P t then(match op with
   | .eql=> .cho (.O (.cmp .lss) [.C 0,len]) (.bool false) [.bool true,.bool false] h
   | .neq=> .X
   |_=> .X)else .X
 |_=> .X
def KZ(P:uV)(op:BinOp)(t:Bg)(x y:AV)(h:Heap):Res:=match x with
 | .agg cs=>match GV P 10000 t (.agg cs) y with
   |some e=>match op with
    | .eql=> .val (.H e) h
    | .neq=> .val (.H (.O .not [e])) h
    |_=> .X
   |none=> .X
 | .S _ _ len _=>Lf P op t len y h
 | .U _ len _=> .X
 |_=> .X
def Vc(P:uV)(op:BinOp)(t:Bg)(x y:AV)(h:Heap):Res:=
 match kr x,kr y with
 |some (k,a),some (k',b)=>Qj op k k' a b h
 |_,_=>match pI x,pI y with
  |some a,some b=>Lt op a b h
  |_,_=>match nl x,nl y with
   |some a,some b=>XK P op t a b h
   |_,_=>KZ P op t x y h
def LI(P:uV)(op:BinOp)(t:Bg)(x y:vE)(h:Heap)(a b:yU):Res:=match a with
 |some a=>match b with
  |some b=>bif AU P op t x y a b then Vc P op t a b h else .X
  |none=> .X
 |none=> .X
def Qb(op:UnOp)(h:Heap)(a:yU):Res:=match a with
 |some (.H e)=>match op with
  | .not=> .val (.H (.O .not [e])) h
  |_=> .X
 |some (.Z k e)=> .X
 |_=> .X
def Qs(e x y:SX):SX:=match x,y with
 | .cb true,.cb false=>e
 | .cb false,.cb true=> .O .not [e]
 |x,y=> .O .J [e,x,y]
def VW(h:Heap)(e:SX)(a b:yU):Res:=match a.bind nl,b.bind nl with
 |some x,some y=> .val (.H (Qs e x y)) h
 |_,_=> .X
def UB(h:Heap)(e:SX)(a b:yU):Res:=match a,b with
 |some (.V []),some y=> .N (.O .not [e]) y h
 |some x,some (.V [])=> .N e x h
 |a,b=>VW h e a b
def Mj(h:Heap)(c a b:yU):Res:=match c with
 |some (.H e)=>UB h e a b
 |_=> .X
def wD(c:CT)(e:SX):AV:=match c with
 | .int k=> .Z k e
 | .str=> .K e
 | .bool=> .H e
def Hx(sig:zd)(l idx:SX):Nat->Nat->Fz
 |_,0=>[]
 |j,n+1=>wD (sig.getD j .bool) (.O .G [l,idx,.C j])::Hx sig l idx (j+1) n
def Hh(c:CT)(v:AV):aaD:=match c with
 | .int k=>match kr v with
   |some (k',e)=>if k=k' then some e else none
   |none=>none
 | .str=>pI v
 | .bool=>nl v
def kL:zd->Fz->Option Jn
 | [],[]=>some []
 |c::cs,v::vs=>match Hh c v,kL cs vs with
  |some e,some es=>some (e::es)
  |_,_=>none
 |_,_=>none
def wG(idx len:SX):SX:= .O .and [.O (.cmp .leq) [.C 0,idx],.O (.cmp .lss) [idx,len]]
def LW(a b:SX):SX:=match a with
 | .C 0=>b
 |a=> .O .iadd [a,b]
def XT(a b:SX):SX:=match a with
 | .O (.cmp .leq) [.C 0,.C 0]=>b
 |a=> .O .and [a,b]
def Mn(P:uV)(t:Bg)(h:Heap)(x i:yU):Res:=match P.underlying t with
 |some (.slice elem)=>match eO P elem with
  |some s=>match i.bind kr with
   |some (_,i)=>match x with
    |some (.S b off len sz)=>bif Nat.beq s sz then .N (XT (.O (.cmp .leq) [.C 0,off]) (wG i len)) (.optr b (LW off i) 0 sz) h else .X
    |some (.U b len sz)=>bif Nat.beq s sz then .N (wG i len) (.optr b i 0 sz) h else .X
    |some (.sl b 0 n _)=> .N (wG i (.C n)) (.optr b i 0 s) h
    |_=> .X
   |none=> .X
  |none=> .X
 |_=> .X
def Ky(P:uV)(s:Bg)(f:Nat)(h:Heap)(a:yU):Res:=match P.underlying s,a with
 |some (.struct fields),some (.optr b idx j sz)=>match fields[f]? with
  |some f=>match eO P f.type with
   |some (_+1)=> .val (.optr b idx (j+f.offset) sz) h
   |_=> .X
  |none=> .X
 |_,_=> .X
def d77(P:uV)(t:Bg)(h:Heap)(x i:yU):Res:= .X
def pT(k:IntKind)(e:SX):AV:=match e with
 | .C n=> .int k n
 |e=> .Z k e
def PT(P:uV)(t:aa7)(h:Heap)(x:AV):Res:=match t with
 |some .string=>match x with
  | .K e=> .val (.Z .i64 (.O .slen [e])) h
  |_=> .X
 |some (.slice _)=>match x with
  | .S _ _ len _=> .N (.O (.cmp .leq) [.C 0,len]) (pT .i64 len) h
  | .U _ len _=> .N (.O (.cmp .leq) [.C 0,len]) (pT .i64 len) h
  |_=> .X
 |_=> .X
def Lc(b:Builtin)(x y:AV)(h:Heap):Res:=match kr x,kr y with
 |some (k,a),some (_,c)=>match b with
  | .max=> .val (.Z k (.O .imax [a,c])) h
  | .min=> .val (.Z k (.O .imin [a,c])) h
  |_=> .X
 |_,_=> .X
def eo5:AV->Option CT
 | .int k _=>some (.int k)
 | .Z k _=>some (.int k)
 | .str _=>some .str
 | .K _=>some .str
 | .bool _=>some .bool
 | .H _=>some .bool
 |_=>none
def CV:Fz->Option zd
 | []=>some []
 |a::r=>match eo5 a,CV r with
  |some c,some cs=>some (c::cs)
  |_,_=>none
def pB(sig:zd)(sz:Nat):Nat->Fz->Option Jn
 |0,_=>some []
 |n+1,cs=>match kL sig (cs.take sz),pB sig sz n (cs.drop sz)with
  |some e,some r=>some (.O .row e::r)
  |_,_=>none
def MS(P:uV)(t:Bg)(sig:zd)(l idx:SX)(j sz:Nat)(h:Heap):Res:=match NV P t,eO P t with
 |some true,some n=>bif Nat.beq sig.length sz&&Nat.ble (j+n) sz then .N (wG idx (.O .Y [l])) (.agg (Hx sig l idx j n)) h else .X
 |some false,some _=>bif Nat.beq sig.length sz&&Nat.blt j sz then .N (wG idx (.O .Y [l])) (wD (sig.getD j .bool) (.O .G [l,idx,.C j])) h else .X
 |_,_=> .X
def KX(P:uV)(t:Bg)(h:Heap)(a:yU):Res:=match a with
 |some (.optr b idx j sz)=>match h.get b with
  |some (.A _ sig l)=>MS P t sig l idx j sz h
  |some (.cells _ _ cs)=> .X
  |some (.vec cs)=> .X
  |_=> .X
 |_=> .X
def cP1(off len:SX)(sz:Nat)(x:sP)(h:Heap):Res:=match x with
 |some (.A _ [.int .u8] l)=> .X
 |_=> .X
def cP2(o n:Nat)(x:sP)(h:Heap):Res:= .X
def dh2(a:yU)(h:Heap):Res:= .X
def dh3(e:Bg)(a:yU)(h:Heap):Res:= .X
def KL(P:uV)(s d:Bg)(h:Heap)(a:yU):Res:=match P.underlying s,P.underlying d with
 |some _,some (.int k)=>match a with
  |some (.Z _ e)=> .val (.Z k (.O (.conv k) [e])) h
  |_=> .X
 |some (.slice e),some .string=> .X
 |some .string,some (.slice e)=> .X
 |some _,some .string=> .X
 |_,_=> .X
def hZ:zd->zd->Bool
 | [],[]=>true
 |a::x,b::y=>decide (a=b)&&hZ x y
 |_,_=>false
def Pb(a b:SX):SX:=bif SX.beq a b then .cb true else .O (.cmp .eql) [a,b]
def eg6:SX->Bool
 | .Q _ _=>false
 |_=>false
def YZ(sz:Nat)(y:AV)(h:Heap):Option (zd×SX×SX):=match y with
 | .U b len s=>match h.get b with
   |some (.A _ sig l)=>bif Nat.beq s sz&&Nat.beq sig.length sz then(bif eg6 len then some (sig,.O .and [.O (.cmp .leq) [.C 0,len],.O (.cmp .leq) [len,.O .Y [l]]],.O .lsub [l,.C 0,len])else some (sig,Pb len (.O .Y [l]),l))else none
   |_=>none
 | .S b off len s=>match h.get b with
   |some (.A _ sig l)=>bif Nat.beq s sz&&Nat.beq sig.length sz then bif SX.beq off (.C 0)&&SX.beq len (.O .Y [l])then some (sig,.cb true,l)else some (sig,.O .and [.O (.cmp .leq) [.C 0,off],.O .and [.O (.cmp .leq) [.C 0,len],.O (.cmp .leq) [.O .iadd [off,len],.O .Y [l]]]],.O .lsub [l,off,.O .iadd [off,len]])else none
   |_=>none
 | .sl b o n _=>match h.get b with
   |some (.cells _ _ cs)=>bif Nat.ble (o+n*sz) cs.length&&Nat.blt 0 n then(match CV ((cs.drop o).take sz)with
    |some sig=>match pB sig sz n ((cs.drop o).take (n*sz))with
     |some rs=>some (sig,.cb true,.O .row rs)
     |none=>none
    |none=>none)else none
   |_=>none
 | .us b o n s=>match h.get b with
   |some (.cells _ _ cs)=>bif Nat.ble (o+n*sz) cs.length&&Nat.blt 0 n&&Nat.beq s sz then(match CV ((cs.drop o).take sz)with
    |some sig=>match pB sig sz n ((cs.drop o).take (n*sz))with
     |some rs=>some (sig,.cb true,.O .row rs)
     |none=>none
    |none=>none)else none
   |_=>none
 |_=>none
def se:Int:=1000000
def d78(z:Fz)(y:AV):Option (zd×SX×SX):=match kr y,CV z with
 |some (_,e),some sig=>(match kL sig z with
  |some es=>some (sig,.O .and [.O (.cmp .leq) [.C 0,e],.O (.cmp .leq) [e,.C se]],.O .lrep [e,.O .row es])
  |none=>none)
 |_,_=>none
def YG(P:uV)(yt sz:Nat)(z:Fz)(y:AV)(h:Heap):Option (zd×SX×SX):=match P.underlying yt with
 |some (.slice _)=>YZ sz y h
 |some .string=>none
 |some (.int _)=>d78 z y
 |_=>none
def UO(elem s:Nat)(sig:zd)(x:AV)(h:Heap):aat:=match x with
 | .sl b o n c=>match h.get b with
   |some (.cells e fz cs)=>bif Nat.beq e elem&&Nat.ble h.wm b&&Nat.ble fz o&&Nat.ble (o+c*s) cs.length&&Nat.ble n c&&Nat.beq sig.length s&&Nat.blt h.next 65536 then(match pB sig s n ((cs.drop o).take (n*s))with
    |some rs=>some (.U h.next (.O .Y [.O .row rs]) s,(h.put b none).new (.A elem sig (.O .row rs)))
    |none=>none)else none
   |_=>none
 | .us b o n s'=>match h.get b with
   |some (.cells e fz cs)=>bif Nat.beq e elem&&Nat.ble h.wm b&&Nat.ble fz o&&Nat.ble (o+n*s) cs.length&&Nat.beq s' s&&Nat.beq sig.length s&&Nat.blt h.next 65536&&Nat.blt 0 s then(match pB sig s n ((cs.drop o).take (n*s))with
    |some rs=>some (.U h.next (.O .Y [.O .row rs]) s,(h.put b none).new (.A elem sig (.O .row rs)))
    |none=>none)else none
   |_=>none
 | .U b (.C 0) s'=>none
 |_=>none
def rP(l y:SX):SX:=match l with
 | .O .row []=>y
 |l=> .O .lcat [l,y]
def Kc(elem s:Nat)(sig:zd)(nd ly:SX)(x:AV)(h:Heap):Res:=match x with
 | .N=>bif !(Nat.blt h.next 65536)then .X else .N (iC nd (.O (.cmp .leq) [.O .Y [ly],.C se])) (.U h.next (.O .Y [ly]) s) (h.new (.A elem sig ly))
 | .U b len sz=>match h.get b with
   |some (.A e sig' l)=>bif Nat.beq sz s&&Nat.beq e elem&&hZ sig' sig&&Nat.ble h.wm b&&Nat.blt h.next 65536&& !(Nat.beq e jP)then
    .N (iC nd (iC (Pb len (.O .Y [l])) (.O (.cmp .leq) [.O .Y [rP l ly],.C se]))) (.U h.next (.O .Y [rP l ly]) s) ((h.put b none).new (.A elem sig (rP l ly)))else .X
   |_=> .X
 |_=> .X
def Zq(elem s:Nat)(sig:zd)(nd ly:SX)(x:AV)(h:Heap)(p:aat):Res:=match p with
 |some p=>Kc elem s sig nd ly p.1 p.2
 |none=>Kc elem s sig nd ly x h
def Tw(P:uV)(ts:Array Bg)(x y:AV)(h:Heap):Res:=match(ts[0]?).bind P.underlying,ts[1]? with
 |some (.slice elem),some yt=>match P.info? elem,ju P elem with
  |some i,some z=>match YG P yt i.size z.cells y h with
   |some (sig,nd,ly)=>bif Nat.blt 0 i.size&&Nat.beq z.cells.length i.size&&Nat.ble i.bytes 1000&&Nat.beq ts.size 2&&Nat.beq sig.length i.size&& !(gi P elem)then Zq elem i.size sig nd ly x h (UO elem i.size sig x h)else .X
   |none=> .X
  |_,_=> .X
 |_,_=> .X
def UF(P:uV)(b:Nat)(off len:SX)(sz:Nat)(z:Fz)(x:sP)(h:Heap):Res:=match x with
 |some (.A e sig l)=>(match kL sig z with
  |some es=>bif Nat.beq sig.length sz&&Nat.blt 0 sz&&Nat.ble h.wm b&& !(Nat.beq e jP)&& !(gi P e)then
   .N (.O .and [.O .and [.O (.cmp .leq) [.C 0,off],.O (.cmp .leq) [.C 0,len]],.O .and [.O (.cmp .leq) [len,.C se],.O (.cmp .leq) [.O .iadd [off,len],.O .Y [l]]]]) .undef (h.put b (some (.A e sig (.O .lcat [.O .lsub [l,.C 0,off],.O .lcat [.O .lrep [len,.O .row es],.O .lsub [l,.O .iadd [off,len],.O .Y [l]]]]))))else .X
  |none=> .X)
 |_=> .X
def Ul(P:uV)(t:aa7)(x:AV)(h:Heap):Res:=match t with
 |some (.slice elem)=>(match ju P elem with
  |some z=>bif gi P elem then .X else(match x with
   | .S b off len sz=>UF P b off len sz z.cells (h.get b) h
   | .U b len sz=> .X
   |_=> .X)
  |none=> .X)
 |_=> .X
def e34(P:uV)(ts:Array Bg)(x y:AV)(h:Heap):Res:= .X
def lH(l idx:SX):Nat->Nat->Jn
 |_,0=>[]
 |j,n+1=> .O .G [l,idx,.C j]::lH l idx (j+1) n
def Ni:zd->Nat->Nat->SX
 | [],_,_=> .cb true
 |c::r,i,j=>iC (match c with
  | .int _=> .O (.cmp .eql) [.V i,.V j]
  | .str=> .O (.scmp .eql) [.V i,.V j]
  | .bool=> .O .beq [.V i,.V j]) (Ni r (i+1) (j+1))
def tS:zd->Nat->Fz
 | [],_=>[]
 |c::r,i=>wD c (.V i)::tS r (i+1)
def wl(P:uV)(kt:Bg)(ks:zd):Bool:=ue P kt (.agg (tS ks 0))&&(match GV P 10000 kt (.agg (tS ks 0)) (.agg (tS ks ks.length))with
 |some e=>SX.beq e (Ni ks 0 ks.length)
 |none=>false)
def eo6:AV->Bool
 | .agg _=>true
 |_=>false
def nB(ks:zd)(l:SX)(es:Jn):SX:= .O (.mfind ks) [l,.O .row es]
def gJ(ks:zd)(l:SX)(es:Jn):SX:= .O (.cmp .lss) [nB ks l es,.O .Y [l]]
def nh(ks:zd)(l:SX)(es:Jn):zd->Nat->Jn->Fz
 |c::cs,j,z::zs=>wD c (.O .J [gJ ks l es,.O .G [l,nB ks l es,.C j],z])::nh ks l es cs (j+1) zs
 |_,_,_=>[]
def mh:Fz->AV
 | [v]=>v
 |vs=> .agg vs
def wK(vs:zd)(z:AV):Bool:=match vs with
 | []=>false
 | [_]=>false
 |_=>eo6 z
def DT(ks:zd)(es zs:Jn)(l:SX):SX:=match l with
 | .O .J [c,l0,.O .lcat [l1,.O .row [.O .row ez]]]=>bif SX.beq c (gJ ks l0 es)&&SX.beq l1 l0&&SX.beqs ez (es++zs)then l0 else l
 |l=>l
def Ys(P:uV)(kt et:Bg)(h:Heap)(b:sP)(cs:Fz)(ok:Bool):Res:=match b,ju P et with
 |some (.marr _ ks vs l),some z=>match kL ks cs,kL vs z.cells with
  |some es,some zs=>bif wl P kt ks&&Nat.ble 2 ks.length&&wK vs z then .val (bif ok then .V [mh (nh ks l es vs ks.length zs),.H (gJ ks l es)]else mh (nh ks (DT ks es zs l) es vs ks.length zs)) h else .X
  |_,_=> .X
 |_,_=> .X
def Mm(P:uV)(t:Bg)(h:Heap)(m k:yU)(ok:Bool):Res:=match P.underlying t with
 |some (.map kt et)=>match m with
  |some (.map r)=>match k with
   |some (.agg cs)=>Ys P kt et h (h.get r) cs ok
   |_=> .X
  |_=> .X
 |_=> .X
def Hu(ks:zd)(l:SX)(es xs:Jn):SX:= .O .J [gJ ks l es,.O .lset [l,nB ks l es,.O .row (es++xs)],.O .lcat [l,.O .row [.O .row (es++xs)]]]
def cl5(P:uV)(kt:Bg)(h:Heap)(r:Nat)(b:sP)(ks vs:zd)(z:AV)(cs:Fz)(x:AV):Res:=match kL ks cs,kL vs x.cells with
 |some es,some xs=>bif wl P kt ks&&Nat.ble 2 ks.length&&wK vs x&&Nat.ble h.wm r then(match b with
  |some (.marr d ks' vs' l)=>bif hZ ks' ks&&hZ vs' vs then .val .undef (h.put r (some (.marr d ks vs (Hu ks l es xs))))else .X
  |some (.map [] c)=> .val .undef (h.put r (some (.marr (Nat.beq c 0) ks vs (.O .row [.O .row (es++xs)]))))
  |_=> .X)else .X
 |_,_=> .X
def VX(P:uV)(t:Bg)(h:Heap)(m k x:yU):Res:=match P.underlying t with
 |some (.map kt et)=>match m with
  |some (.map r)=>match k with
   |some (.agg cs)=>match x with
    |some x=>match ju P kt,ju P et with
     |some zk,some z=>match CV zk.cells,CV z.cells with
      |some ks,some vs=>cl5 P kt h r (h.get r) ks vs z cs x
      |_,_=> .X
     |_,_=> .X
    |none=> .X
   |_=> .X
  |_=> .X
 |_=> .X
def dH1(P:uV)(kt:Bg)(h:Heap)(r:Nat)(b:sP)(cs:Fz):Res:=match b with
 |some (.marr _ ks vs l)=>match kL ks cs with
  |some es=>bif wl P kt ks&&Nat.ble 2 ks.length&&Nat.ble h.wm r then .N (.cb true) .undef (h.put r (some (.marr false ks vs (.O (.mdel ks) [l,.O .row es]))))else .X
  |none=> .X
 |_=> .X
def VO(P:uV)(u:aa7)(h:Heap)(m k:AV):Res:=match u with
 |some (.map kt _)=>match m with
  | .map r=>match k with
    | .agg cs=>dH1 P kt h r (h.get r) cs
    |_=> .X
  |_=> .X
 |_=> .X
def LC(P:uV)(b:Builtin)(ts:Array Bg)(h:Heap)(args:Option Fz):Res:=match args with
 |some [x]=>match b with
  | .len=>PT P ((ts[0]?).bind P.underlying) h x
  | .unsafeSliceData=> .X
  | .clear=>Ul P ((ts[0]?).bind P.underlying) x h
  |_=> .X
 |some [x,y]=>match b with
  | .append=>Tw P ts x y h
  | .unsafeString=> .X
  | .copy=>e34 P ts x y h
  | .delete=>VO P ((ts[0]?).bind P.underlying) h x y
  |_=>Lc b x y h
 |_=> .X
def PB(P:uV)(ρ:vE->yU)(c:Call)(h:Heap):Res:=match c.callee with
 | .builtin b=>LC P b c.argTypes h (evs ρ c.args.toList)
 |_=> .X
def ZR(e:Nat)(sig:zd)(l idx:SX)(b j n:Nat)(h:Heap)(es:Option Jn):Res:=match es with
 |some es=> .N (wG idx (.O .Y [l])) .undef (h.put b (some (.A e sig (.O .lset [l,idx,.O .row (lH l idx 0 j++(es++lH l idx (j+n) (sig.length-(j+n))))]))))
 |none=> .X
def cl8(P:uV)(b:Nat)(idx:SX)(j sz n:Nat)(v:AV)(h:Heap)(x:sP):Res:=match x with
 |some (.A e sig l)=>bif Nat.beq sig.length sz&&Nat.ble (j+n) sz&&v.nt&&Nat.beq v.cells.length n&&Nat.ble h.wm b&&Nat.blt 0 n&& !(gi P e)&& !(Nat.beq e jP)then ZR e sig l idx b j n h (kL ((sig.drop j).take n) v.cells)else .X
 |_=> .X
def XE(P:uV)(t:Bg)(h:Heap)(a v:yU):Res:=match a,v,eO P t with
 |some (.optr b idx j sz),some v,some n=>cl8 P b idx j sz n v h (h.get b)
 |_,_,_=> .X
def EW(x:Option yU)(d:SX):aaD:=match x with
 |some none=>some d
 |some (some v)=>(kr v).map (·.2)
 |none=>none
def Mu(lo hi n:SX):SX:=iC (bif SX.beq lo (.C 0)then .cb true else .O (.cmp .leq) [.C 0,lo]) (iC (.O (.cmp .leq) [lo,hi]) (bif SX.beq hi n then .cb true else .O (.cmp .leq) [hi,n]))
def yG(a b:SX):SX:=match b with
 | .C 0=>a
 |b=> .O .isub [a,b]
def dH2(s:SX)(h:Heap)(lo hi:aaD):Res:=match lo,hi with
 |some lo,some hi=> .X
 |_,_=> .X
def Tq(b:Nat)(off len:SX)(sz:Nat)(h:Heap)(lo hi:aaD):Res:=match lo,hi with
 |some lo,some hi=> .N (iC (bif SX.beq off (.C 0)then .cb true else .O (.cmp .leq) [.C 0,off]) (Mu lo hi len)) (.S b (LW off lo) (yG hi lo) sz) h
 |_,_=> .X
def Yy(b:Nat)(len:SX)(sz:Nat)(h:Heap)(lo hi:aaD):Res:=match lo,hi with
 |some lo,some hi=>bif SX.beq lo (.C 0)then .N (Mu (.C 0) hi len) (.U b hi sz) h else .N (Mu lo hi len) (.S b lo (yG hi lo) sz) h
 |_,_=> .X
def Oq(P:uV)(t:Bg)(h:Heap)(x:yU)(lo hi mx:Option yU):Res:=match x,mx with
 |some x,some none=>(match P.underlying t with
  |some .string=> .X
  |some (.slice elem)=>(match eO P elem,x with
   |some s,.S b off len sz=>bif Nat.beq s sz then Tq b off len sz h (EW lo (.C 0)) (EW hi len)else .X
   |some s,.U b len sz=>bif Nat.beq s sz then Yy b len sz h (EW lo (.C 0)) (EW hi len)else .X
   |_,_=> .X)
  |_=> .X)
 |_,_=> .X
def qQ(E:Env)(ρ:vE->yU)(o:Oper)(h:Heap):Res:=
 match o.op with
 | .binOp op t x y _=>LI E.P op t x y h (ρ x) (ρ y)
 | .unOp op _ x=>Qb op h (ρ x)
 | .convert s d x=>KL E.P s d h (ρ x)
 | .pick c a b=>Mj h (ρ c) (ρ a) (ρ b)
 | .load t a=>KX E.P t h (ρ a)
 | .indexAddr t x i=>Mn E.P t h (ρ x) (ρ i)
 | .fieldAddr s x f=>Ky E.P s f h (ρ x)
 | .index t x i=>d77 E.P t h (ρ x) (ρ i)
 | .store t a x=>XE E.P t h (ρ a) (ρ x)
 | .slice t x lo hi mx=>Oq E.P t h (ρ x) (fe ρ lo) (fe ρ hi) (fe ρ mx)
 | .lookup t m k ok=>Mm E.P t h (ρ m) (ρ k) ok
 | .mapUpdate t m k x=>VX E.P t h (ρ m) (ρ k) (ρ x)
 | .insert t m k x=> .X
 | .mapEntry t m k=> .X
 | .entryStore _ m s x=> .X
 | .call c=>PB E.P ρ c h
 |_=> .X
def dH3(r:Res)(s:Res):Res:=match r with
 | .X=>s
 |r=>r
def fE(E:Env)(ρ:vE->yU)(o:Oper)(h:Heap):Res:=dH3 (oE E ρ o h) (qQ E ρ o h)
def qk(o:Oper):Bool:=
 match o.op with
 | .move _| .pick .. | .alloc _| .box .. | .build .. | .buildSlice .. | .load .. | .nilCheck _| .binOp .. | .unOp .. | .makeInterface .. | .makeFunc ..
 | .makeMap .. | .makeSlice .. | .slice .. | .fieldAddr .. | .field .. | .indexAddr .. | .index .. | .lookup .. | .extract .. | .convert .. | .typeAssert .. =>true
 | .call {callee:= .builtin .len,..}| .call {callee:= .builtin .cap,..}| .call {callee:= .builtin .min,..}| .call {callee:= .builtin .max,..}=>true
 |_=>false
def gY(o:Oper):Bool:=
 match o.op with
 | .alloc _| .box .. | .buildSlice .. | .makeMap .. | .makeSlice .. =>true
 |_=>false
def sr(e:Edge):Bool:=match e.ground with
 | .textOnly _| .gcOnly _=>false
 |_=>true
def zV(acc:HQ):List Edge->Nat
 | []=>0
 |e::r=>bif sr e then(2^e.on|||acc.getD e.on 0)|||zV acc r else zV acc r
def MA:aay->HQ->Option HQ
 | [],acc=>some acc
 |o::r,acc=>bif o.after.toList.all (λe=> !sr e||Nat.blt e.on acc.length)then MA r (acc++[zV acc o.after.toList])else none
def d79:vE->HQ
 | .tmp t=>[t]
 |_=>[]
def pE(ops:aay)(o:Oper):HQ:=
 o.op.operands.toList.flatMap d79++(match o.guard with
  |some (j,_)=>match ops[j]? with
   |some g=>g.dst.toList
   |none=>[]
  |none=>[])
structure PO where
 i:Nat
 o:Oper
 m:Nat
 fl:Bool
abbrev aaG:= List PO
def uH:aay->HQ->Nat->aaG
 |o::r,m::ms,i=>⟨i,o,m,qk o⟩::uH r ms (i+1)
 |_,_,_=>[]
def UN(done:Nat):aaG->aaG×aaG×Nat
 | []=>([],[],done)
 |x::r=>bif x.fl&&Nat.beq (x.m&&&done) x.m then
  let (a,b,d):=UN (done|||2^x.i) r
  (x::a,b,d)
  else
   let (a,b,d):=UN done r
   (a,x::b,d)
def ZS:Nat->Nat->aaG->aaG
 |0,_,l=>l
 |f+1,done,l=>
  match UN done l with
  |(a,b,d)=>match b.find? (λx=> !x.fl)with
   |none=>a++b
   |some c=>a++c::ZS f (d|||2^c.i) (b.filter λx=> !(Nat.beq x.i c.i))
def CY(o:Oper)(t:Nat):Bool:=match o.dst with
 |some d=>Nat.beq d t
 |none=>false
def dh6(ops:aay)(l:aaG):Bool:=
 l.all λx=>((pE ops x.o).all λt=>l.all λy=> !(CY y.o t)||x.m.testBit y.i||(!y.fl&&y.m.testBit x.i))&&
  (match x.o.dst with
  |none=>true
  |some d=>l.all λy=> !(CY y.o d)||Nat.beq x.i y.i)
def dh7(l:aaG):Bool:=
 l.all λx=>x.fl||l.all λy=>y.fl|| !(Nat.blt y.i x.i)||x.m.testBit y.i
def eager:Nat->aaG->Bool
 |_,[]=>true
 |done,x::r=>Nat.beq (x.m&&&done) x.m&& !(done.testBit x.i)&&(x.fl||r.all (λy=> !y.fl|| !(Nat.beq (y.m&&&done) y.m)))&&eager (done|||2^x.i) r
def Xg(ops:aay)(l:aaG):aaG:=(ZS (ops.length+1) 0 l).filterMap λy=>l[y.i]?
def GM(ops:aay):Option aaG:=
 match MA ops []with
 |none=>none
 |some ms=>bif dh6 ops (uH ops ms 0)&&dh7 (uH ops ms 0)&&eager 0 (Xg ops (uH ops ms 0))&&
  (uH ops ms 0).all (λx=>(Xg ops (uH ops ms 0)).any λy=>Nat.beq x.i y.i)then some (Xg ops (uH ops ms 0))else none
mutual
def AV.beq:AV->AV->Bool
 | .bool a,.bool b=>a==b
 | .int k a,.int k' b=>decide (k=k')&&oC a b
 | .str a,.str b=>yq a b
 | .nilp,.nilp| .N,.N| .es0,.es0| .nilm,.nilm| .nilf,.nilf| .nili,.nili=>true
 | .ptr a b,.ptr c d=>Nat.beq a c&&Nat.beq b d
 | .glob a,.glob b| .map a,.map b| .opq a,.opq b=>Nat.beq a b
 | .K a,.K b| .H a,.H b=>SX.beq a b
 | .S a b c d,.S a' b' c' d'=>Nat.beq a a'&&SX.beq b b'&&SX.beq c c'&&Nat.beq d d'
 | .optr a b c d,.optr a' b' c' d'=>Nat.beq a a'&&SX.beq b b'&&Nat.beq c c'&&Nat.beq d d'
 | .U a b c,.U a' b' c'=>Nat.beq a a'&&SX.beq b b'&&Nat.beq c c'
 | .any,.any=>false
 | .atl a,.atl b=>false
 | .Z k a,.Z k' b=>decide (k=k')&&SX.beq a b
 | .es a b c,.es a' b' c'=>false
 | .sl a b c d,.sl a' b' c' d'=>Nat.beq a a'&&Nat.beq b b'&&Nat.beq c c'&&Nat.beq d d'
 | .us a b c d,.us a' b' c' d'=>Nat.beq a a'&&Nat.beq b b'&&Nat.beq c c'&&Nat.beq d d'
 | .func f a b,.func g c d=>decide (f=g)&&AV.beqs a c&&AV.beqs b d
 | .iface t v,.iface u w=>false
 | .agg a,.agg b| .V a,.V b=>AV.beqs a b
 |_,_=>false
def AV.beqs:Fz->Fz->Bool
 | [],[]=>true
 |a::x,b::y=>AV.beq a b&&AV.beqs x y
 |_,_=>false
end
mutual
def fT(v0:Nat):SX->Bool
 | .V m=>Nat.blt m v0
 | .O _ l=>tf v0 l
 | .Q _ l=>tf v0 l
 |_=>true
def tf(v0:Nat):Jn->Bool
 | []=>true
 |a::r=>fT v0 a&&tf v0 r
end
mutual
def ib(v0 nb:Nat):AV->Bool
 | .bool _| .int _ _| .str _| .nilp| .glob _| .N| .es0| .nilm| .nilf| .nili| .opq _| .atl _| .any=>true
 | .ptr b _=>Nat.blt b nb
 | .sl b _ _ _=>Nat.blt b nb
 | .us b _ _ _=>false
 | .es b _ _=>false
 | .map b=>Nat.blt b nb
 | .yield b=>false
 | .func _ x y=>pP v0 nb x&&pP v0 nb y
 | .iface _ v=>false
 | .agg l=>pP v0 nb l
 | .V l=>pP v0 nb l
 | .Z _ e=>fT v0 e
 | .K e=>fT v0 e
 | .H e=>fT v0 e
 | .S b x y _=>Nat.blt b nb&&fT v0 x&&fT v0 y
 | .optr b x _ _=>Nat.blt b nb&&fT v0 x
 | .U b x _=>Nat.blt b nb&&fT v0 x
def pP(v0 nb:Nat):Fz->Bool
 | []=>true
 |a::r=>ib v0 nb a&&pP v0 nb r
end
def AB(v0:Nat)(e:SX):Bj:=match e with
 | .V m=>bif Nat.ble v0 m then some (m-v0)else none
 |_=>none
def og(v0 n:Nat)(p x:SX):Option Jn:=match AB v0 p with
 |some m=>bif Nat.beq m n then some [x]else none
 |none=>bif SX.beq p x&&fT v0 x then some []else none
def xf(v0 n:Nat)(p:SX)(x:aaD):Option Jn:=match x with
 |some x=>og v0 n p x
 |none=>none
def Na(v0 n:Nat)(k:IntKind)(p:SX)(x:abf):Option Jn:=match x with
 |some (k',x)=>if k=k' then og v0 n p x else none
 |none=>none
def Cd(v0 n:Nat)(p q x y:SX):Option Jn:=match og v0 n p x with
 |some es=>match og v0 (n+es.length) q y with
  |some fs=>some (es++fs)
  |none=>none
 |none=>none
def JO(v0 nb n b:Nat)(p q:SX)(s:Nat)(x:AV):Option Jn:=match x with
 | .S b' x y s'=>bif Nat.beq b b'&&Nat.beq s s'&&Nat.blt b nb then Cd v0 n p q x y else none
 |_=>none
def FL(v0 nb n b:Nat)(p:SX)(s:Nat)(x:AV):Option Jn:=match x with
 | .U b' x s'=>bif Nat.beq b b'&&Nat.beq s s'&&Nat.blt b nb then og v0 n p x else none
 |_=>none
mutual
def ef(v0 nb n:Nat):AV->AV->Option Jn
 | .any,_=>some []
 | .Z k p,x=>Na v0 n k p (kr x)
 | .K p,x=>xf v0 n p (pI x)
 | .H p,x=>xf v0 n p (nl x)
 | .agg ps,.agg xs=>qN v0 nb n ps xs
 | .S b p q s,x=>JO v0 nb n b p q s x
 | .U b p s,x=>FL v0 nb n b p s x
 |p,x=>bif AV.beq p x&&ib v0 nb x then some []else none
def qN(v0 nb n:Nat):Fz->Fz->Option Jn
 | [],[]=>some []
 |p::ps,x::xs=>match ef v0 nb n p x with
  |some e=>match qN v0 nb (n+e.length) ps xs with
   |some es=>some (e++es)
   |none=>none
  |none=>none
 |_,_=>none
end
def pZ(v0 nb n:Nat)(p x:Blk):Option Jn:=match p,x with
 | .cells e fz ps,.cells e' fz' xs=>bif Nat.beq e e'&&Nat.beq fz fz'&&ps.all AV.oneA then qN v0 nb n ps xs else none
 | .A e sig p,.A e' sig' x=>bif Nat.beq e e'&&hZ sig sig' then og v0 n p x else none
 | .map es c,.map es' c'=>none
 | .marr d ks vs p,.marr d' ks' vs' x=>bif (!d||d')&&(hZ ks ks'&&hZ vs vs')then og v0 n p x else none
 | .marr d _ _ p,.map [] c=>bif !d||Nat.beq c 0 then og v0 n p (.O .row [])else none
 | .bag e sig p,.bag e' sig' x=>bif Nat.beq e e'&&hZ sig sig' then og v0 n p x else none
 |_,_=>none
def ud(v0 nb n:Nat)(p x:sP):Option Jn:=match p with
 |none=>some []
 |some p=>match x with
  |some x=>pZ v0 nb n p x
  |none=>none
def QP(v0 nb:Nat)(aP a:Fr):Nat->Nat->Nat->Option Jn
 |0,_,_=>some []
 |m+1,t,n=>match ef v0 nb n (aP.slot t) (a.slot t)with
  |some e=>match QP v0 nb aP a m (t+1) (n+e.length)with
   |some es=>some (e++es)
   |none=>none
  |none=>none
def Mg(v0 nb:Nat)(hP h:Heap):Nat->Nat->Nat->Option Jn
 |0,_,_=>some []
 |m+1,b,n=>match ud v0 nb n (hP.get b) (h.get b)with
  |some e=>match Mg v0 nb hP h m (b+1) (n+e.length)with
   |some es=>some (e++es)
   |none=>none
  |none=>none
def tV(a:Fr):Bool:=a.ds.isEmpty&&a.ro.isNone
def tQ(v0:Nat)(aP:Fr)(hP:Heap)(a:Fr)(h:Heap):Option Jn:=
 bif tV aP&&tV a&&Nat.beq aP.nt a.nt&&Nat.ble hP.next h.next&&Nat.beq hP.wm h.wm then
  (match QP v0 hP.next aP a aP.nt 0 0 with
  |some es=>match Mg v0 hP.next hP h hP.next 0 es.length with
   |some fs=>some (es++fs)
   |none=>none
  |none=>none)
 else none
def eW(a:Fr):aav->Fr
 | []=>a
 |(t,v)::r=>eW (a.put (some t) v) r
def layDead(a:Fr):HQ->Fr
 | []=>a
 |t::r=>layDead (a.put (some t) .any) r
def dH6(n:Nat)(t:TH)(_ wm:Nat):Heap:=⟨t,n,wm⟩
def Heap.upto(h:Heap)(n:Nat):Heap:=Heap.rec (dH6 n) h
def iy(h:Heap):List (Nat×sP)->Heap
 | []=>h
 |(b,x)::r=>iy (h.put b x) r
def Lx(a:Fr)(b:Nat):Nat->Bool
 |0=>false
 |t+1=>(match a.slot t with
  | .ptr b' _=>Nat.beq b b'
  | .map b'=>Nat.beq b b'
  |_=>false)||Lx a b t
def dH7(h:Heap)(b:Nat):Bool:=match h.get b with
 |some (.A _ _ _)=>true
 |_=>false
def dH8(b:Nat):AV->Bool
 | .map b'=>Nat.beq b b'
 |_=>false
def dH9(b:Nat)(x:sP):Bool:=match x with
 |some (.cells _ _ cs)=>cs.any (dH8 b)
 |_=>false
def WU(b:Nat)(h:Heap):AV->Bool
 | .ptr c _=>dH9 b (h.get c)
 |_=>false
def Me(a:Fr)(h:Heap)(b:Nat):Nat->Bool
 |0=>false
 |t+1=>(match a.slot t with
  | .func _ _ l=>false
  | .ptr c o=>WU b h (.ptr c o)
  |_=>false)||Me a h b t
def NU(a:Fr)(h:Heap)(n0:Nat)(next:Nat)(l:List (Nat×sP)):Bool:=l.all λp=>Nat.blt p.1 next&&(Nat.ble n0 p.1||Lx a p.1 a.nt||dH7 h p.1||Me a h p.1 a.nt)
def eC(v0:Nat)(q:Nat->SX)(e:SX):SX:=match AB v0 e with
 |some m=>q m
 |none=>e
mutual
def tn(v0:Nat)(q:Nat->SX):AV->AV
 | .Z k e=> .Z k (eC v0 q e)
 | .K e=> .K (eC v0 q e)
 | .H e=> .H (eC v0 q e)
 | .agg l=> .agg (Da v0 q l)
 | .S b x y s=> .S b (eC v0 q x) (eC v0 q y) s
 | .U b x s=> .U b (eC v0 q x) s
 |x=>x
def Da(v0:Nat)(q:Nat->SX):Fz->Fz
 | []=>[]
 |a::r=>tn v0 q a::Da v0 q r
end
def BT(v0:Nat)(q:Nat->SX)(x:sP):sP:=match x with
 |some (.cells e fz cs)=>some (.cells e fz (Da v0 q cs))
 |some (.A e sig l)=>some (.A e sig (eC v0 q l))
 |some (.marr d ks vs l)=>some (.marr d ks vs (eC v0 q l))
 |some (.bag e sig l)=>some (.bag e sig (eC v0 q l))
 |x=>x
def AE(v0 nb:Nat):sP->Bool
 |none=>true
 |some (.cells _ _ cs)=>pP v0 nb cs
 |some (.A _ _ l)=>fT v0 l
 |some (.marr _ _ _ l)=>fT v0 l
 |some (.bag _ _ l)=>fT v0 l
 |some (.map es _)=>false
 |_=>false
def yz(v0 nb:Nat)(a:Fr):Nat->Bool
 |0=>true
 |t+1=>ib v0 nb (a.slot t)&&yz v0 nb a t
def MV(v0 nb:Nat)(h:Heap):Nat->Bool
 |0=>true
 |t+1=>AE v0 nb (h.get t)&&MV v0 nb h t
mutual
def pG(b:Nat):AV->Bool
 | .ptr c _=> !(Nat.beq c b)
 | .sl c _ _ _=> !(Nat.beq c b)
 | .us c _ _ _=>false
 | .es c _ _=>false
 | .map c=> !(Nat.beq c b)
 | .yield c=>false
 | .func _ x y=>ou b x&&ou b y
 | .iface _ v=>false
 | .agg l=>ou b l
 | .V l=>ou b l
 | .S c _ _ _=> !(Nat.beq c b)
 | .optr c _ _ _=> !(Nat.beq c b)
 | .U c _ _=> !(Nat.beq c b)
 |_=>true
def ou(b:Nat):Fz->Bool
 | []=>true
 |a::r=>pG b a&&ou b r
end
def pS(b:Nat):sP->Bool
 |none=>true
 |some (.cells _ _ cs)=>ou b cs
 |some (.A _ _ _)=>true
 |some (.map es _)=>es.all λe=>pG b e.key&&pG b e.val
 |some (.marr _ _ _ _)=>true
 |some (.bag _ _ _)=>true
 |some (.mrg it _ _ _ _)=> !(Nat.beq it b)
 |some (.mit m)=> !(Nat.beq m b)
 |some (.vec cs)=>false
 |_=>false
def sM(b t:Nat)(a:Fr):Nat->Bool
 |0=>a.ds.isEmpty
 |s+1=>(Nat.beq s t||pG b (a.slot s))&&sM b t a s
def wU(b:Nat)(h:Heap):Nat->Bool
 |0=>true
 |s+1=>pS b (h.get s)&&wU b h s
def nM(o:OwnP)(a:Fr)(h:Heap)(l:SX):Fr×Heap:=(a.put (some o.slot) (.U o.blk (.O .Y [l]) o.sig.length),h.put o.blk (some (.A o.elem o.sig l)))
def NS(len l:SX):Bool:=SX.beq len (.O .Y [l])||(match len,l with
 | .C 0,.O .row []=>false
 |_,_=>false)
def PW(o:OwnP)(a:Fr)(h:Heap):aaQ:=
 match a.slot o.slot with
 | .U r len sz=>bif Nat.beq r o.blk then(match h.get r with
  |some (.A e sig l)=>bif Nat.beq e o.elem&&hZ sig o.sig&&Nat.beq sz sig.length then some (a,h)else none
  |_=>none)
  else bif Nat.blt o.slot a.nt&&Nat.blt o.blk h.next&&Nat.blt o.blk 65536&&(h.get o.blk).isNone&&sM o.blk o.slot a a.nt&&wU o.blk h h.next&&Nat.ble h.wm r then(match h.get r with
   |some (.A e sig l)=>bif Nat.beq e o.elem&&hZ sig o.sig&&Nat.beq sz sig.length&&NS len l then some (nM o a (h.put r none) l)else none
   |_=>none)else none
 | .N=>bif Nat.blt o.slot a.nt&&Nat.blt o.blk h.next&&Nat.blt o.blk 65536&&(h.get o.blk).isNone&&sM o.blk o.slot a a.nt&&wU o.blk h h.next then some (nM o a h (.O .row []))else none
 | .us r 0 n sz=>bif Nat.blt o.slot a.nt&&Nat.blt o.blk h.next&&Nat.blt o.blk 65536&&(h.get o.blk).isNone&&sM o.blk o.slot a a.nt&&wU o.blk h h.next&&Nat.ble h.wm r&&Nat.blt 0 sz then(match h.get r with
  |some (.cells e 0 cs)=>bif Nat.beq e o.elem&&Nat.beq sz o.sig.length&&Nat.beq cs.length (n*sz)then(match pB o.sig sz n cs with
   |some rs=>some (nM o a (h.put r none) (.O .row rs))
   |none=>none)else none
  |_=>none)else none
 | .sl r p n c=>bif Nat.blt o.slot a.nt&&Nat.blt o.blk h.next&&Nat.blt o.blk 65536&&(h.get o.blk).isNone&&sM o.blk o.slot a a.nt&&wU o.blk h h.next&&Nat.ble h.wm r then(match h.get r with
  |some (.cells e fz cs)=>bif Nat.beq e o.elem&&Nat.ble fz p&&Nat.ble (p+c*o.sig.length) cs.length&&Nat.ble n c then(match pB o.sig o.sig.length n ((cs.drop p).take (n*o.sig.length))with
   |some rs=>some (nM o a (h.put r none) (.O .row rs))
   |none=>none)else none
  |_=>none)else none
 |_=>none
def eg7:AV->Bool
 | .U _ _ _=>false
 | .us _ _ _ _=>false
 | .sl _ _ _ _=>false
 |_=>true
def yK(o:OwnP)(a:Fr)(h:Heap):Heap:=match a.slot o.slot with
 | .U r _ _=>bif Nat.beq r o.blk||(h.get o.blk).isNone then h else h.put o.blk none
 |_=>h
def d82(o:OwnP)(a:Fr)(h:Heap):aaQ:=bif o.lz&&eg7 (a.slot o.slot)then some (a,h)else PW o a (yK o a h)
def Np(o:OwnP)(c i e fz:Nat)(cs:Fz)(h:Heap)(l:SX):Heap:=(h.put c (some (.cells e fz (cs.set i (.U o.blk (.O .Y [l]) o.sig.length))))).put o.blk (some (.A o.elem o.sig l))
def Nx(b c:Nat)(cs:Fz)(h:Heap):Nat->Bool
 |0=>ou b cs
 |s+1=>(Nat.beq s c||pS b (h.get s))&&Nx b c cs h s
def SZ(o:OwnP)(c i e fz:Nat)(cs:Fz)(a:Fr)(h:Heap)(x:yU):aaQ:=match x with
 |some (.U r len sz)=>bif Nat.beq r o.blk then(match h.get r with
  |some (.A e sig l)=>bif Nat.beq e o.elem&&hZ sig o.sig&&Nat.beq sz sig.length then some (a,h)else none
  |_=>none)
  else bif Nat.ble h.wm r&& !(Nat.beq r c)then(match h.get r with
   |some (.A e' sig l)=>bif Nat.beq e' o.elem&&hZ sig o.sig&&Nat.beq sz sig.length&&NS len l then some (a,Np o c i e fz cs (h.put r none) l)else none
   |_=>none)else none
 |some .N=>some (a,Np o c i e fz cs h (.O .row []))
 |some (.us r 0 n sz)=>none
 |_=>none
def IU(b:Nat)(x:yU):Bool:=match x with
 |some (.U r _ _)=>Nat.beq r b
 |some (.ptr r _)=>Nat.beq r b
 |some (.map r)=>Nat.beq r b
 |_=>false
def NX(c:Nat)(x:AV):Bool:=match x with
 | .ptr b _=>Nat.beq b c
 |_=>false
def Ns(c:Nat):Fz->Bool
 | []=>false
 |x::r=>NX c x||Ns c r
def Ud(c:Nat)(x:AV)(h:Heap):Bool:=NX c x||(match x with
 | .ptr b _=>(match h.get b with
   |some (.cells _ _ cs)=>Ns c cs
   |_=>false)
 |_=>false)
def NW(o:OwnP)(c i e fz:Nat)(cs:Fz)(a:Fr)(h:Heap)(y:AV)(r:Nat):aaQ:=bif Nat.ble h.wm r&& !(Nat.beq r c)then(match h.get r with
 |some x=>bif pS o.blk (some x)then some (a,((h.put r none).put c (some (.cells e fz (cs.set i y)))).put o.blk (some x))else none
 |none=>none)else none
def Vq(o:OwnP)(c i e fz:Nat)(cs:Fz)(a:Fr)(h:Heap)(x:yU):aaQ:=match x with
 |some (.ptr r p)=>bif Nat.beq r o.blk then some (a,h)else NW o c i e fz cs a h (.ptr o.blk p) r
 |some (.map r)=>bif Nat.beq r o.blk then some (a,h)else NW o c i e fz cs a h (.map o.blk) r
 |_=>none
def PU(o:OwnP)(c i:Nat)(a:Fr)(h:Heap):aaQ:=match h.get c with
 |some (.cells e fz cs)=>bif Ud c (a.slot o.slot) h&&Nat.blt o.slot a.nt&&Nat.blt i cs.length&&(IU o.blk cs[i]? ||(Nat.blt o.blk h.next&&Nat.blt o.blk 65536&&(h.get o.blk).isNone&& !(Nat.beq c o.blk)&&sM o.blk a.nt a a.nt&&Nx o.blk c (cs.set i .N) h h.next))then(bif o.sig.isEmpty then Vq o c i e fz cs a h cs[i]? else SZ o c i e fz cs a h cs[i]?)else none
 |_=>none
def CE(o:OwnP)(c i:Nat)(h:Heap):Heap:=match h.get c with
 |some (.cells _ _ cs)=>bif IU o.blk cs[i]? ||(h.get o.blk).isNone||Nat.beq c o.blk then h else h.put o.blk none
 |_=>h
def Tx(o:OwnP)(a:Fr)(h:Heap):aaQ:=match o.cell with
 |none=>d82 o a h
 |some p=>PU o p.1 p.2 a (CE o p.1 p.2 h)
def xJ:aaM->Fr->Heap->aaQ
 | [],a,h=>some (a,h)
 |o::r,a,h=>match Tx o a h with
  |some p=>xJ r p.1 p.2
  |none=>none
def DN:Ex->Ex->Bool
 | .norm,.norm=>false
 | .ret,.ret=>true
 | .exit a,.exit b=>Nat.beq a b
 |_,_=>false
structure Pend where
 i:Nat
 o:Oper
 v:AV
 nd:aaD
abbrev aaK:= List Pend
inductive Task (R:Type)where
 |code (c:Code) (a:Fr) (h:Heap) (k:Ex->Fr->Heap->R)
 |loop (c:Code) (a:Fr) (h:Heap) (k:Ex->Fr->Heap->R)
 |ops (all rest:aay) (a:Fr) (h:Heap) (k:Fr->Heap->R)
 |dops (all:aay) (rest:aaG) (pend:aaK) (a:Fr) (h:Heap) (k:Fr->Heap->R)
 |call (f:FuncId) (args:Fz) (h:Heap) (k:AV->Heap->R)
 |body (f:FuncId) (args:Fz) (h:Heap) (k:AV->Heap->R)
 |dbody (f:FuncId) (args:Fz) (h:Heap) (k:AV->Heap->R)
 |leave (rs:aaX) (a:Fr) (ds:aaH) (h:Heap) (k:AV->Heap->R)
abbrev PC:=aaR
structure Alg (R:Type)where
 X:R
 amb:List (AV×Heap)->(AV×Heap->R)->R
 J:SX->R->R->R
 N:SX->R->R
 loop:LHd->VT->List R->R
 mloop:LHd->SX->VT->List R->R
def wY:Alg Bool:=⟨false,λl f=>l.all f,λ_ x y=>x&&y,λ_ _=>false,λ_ _ _=>false,λ_ _ _ _=>false⟩
def Vi:Alg aat:=⟨none,λl f=>match l with
 |x::_=>f x
 | []=>none,λ_ _ _=>none,λ_ _=>none,λ_ _ _=>none,λ_ _ _ _=>none⟩
structure VC where
 pc:PC
 cl:SX
def d83(p:Prim)(l:Jn):SX×Bool:=match p,l with
 | .cmp .geq,[a,b]=>(.O (.cmp .lss) [a,b],false)
 | .cmp .gtr,[a,b]=>(.O (.cmp .lss) [b,a],true)
 | .cmp .leq,[a,b]=>(.O (.cmp .lss) [b,a],false)
 | .cmp .neq,[a,b]=>(.O (.cmp .eql) [a,b],false)
 | .scmp .geq,[a,b]=>(.O (.scmp .lss) [a,b],false)
 | .scmp .gtr,[a,b]=>(.O (.scmp .lss) [b,a],true)
 | .scmp .leq,[a,b]=>(.O (.scmp .lss) [b,a],false)
 | .scmp .neq,[a,b]=>(.O (.scmp .eql) [a,b],false)
 |p,l=>(.O p l,true)
def Ew(e:SX):SX×Bool:=match e with
 | .O p l=>d83 p l
 |e=>(e,true)
def Mf(e:SX):PC->AK
 | []=>none
 |p::r=>bif SX.beq e p.1 then some p.2 else Mf e r
def Tg(a b:Bool):Bool:=bif a then b else !b
def Vk(c:SX×Bool)(pc:PC):AK:=match Mf c.1 pc with
 |some b=>some (Tg b c.2)
 |none=>none
def SD(a b:AK):AK:=match a with
 |some false=>none
 |some true=>b
 |none=>match b with
  |some false=>none
  |_=>none
def eg8(a:AK):AK:=match a with
 |some b=>some (!b)
 |none=>none
def eg9(c a b:AK):AK:=match c with
 |some true=>a
 |some false=>b
 |none=>none
def d84(k:SX->AK)(p:Prim)(l:Jn):AK:=match p,l with
 | .not,[a]=>eg8 (k a)
 | .and,[a,b]=>SD (k a) (k b)
 | .or,[a,b]=>none
 | .J,[c,a,b]=>eg9 (k c) (k a) (k b)
 |p,l=>Pc (.O p l)
def d85(k:SX->AK)(e:SX):AK:=match e with
 | .cb b=>some b
 | .O p l=>d84 k p l
 |_=>none
def Sl(pc:PC)(k:SX->AK)(e:SX):AK:=match Vk (Ew e) pc with
 |some b=>some b
 |none=>d85 k e
def qr(pc:PC)(n:Nat):SX->AK:=Nat.rec (motive:=λ_=>SX->AK) (λ_=>none) (λ_ k=>Sl pc k) n
def d86(k:SX->Bool->PC)(p:Prim)(l:Jn)(b:Bool):PC:=match p,l with
 | .not,[a]=>k a (!b)
 | .and,[x,y]=>bif b then k x true++k y true else []
 | .or,[x,y]=>bif b then []else k x false++k y false
 | .J,[c,x,.cb false]=>bif b then k c true++k x true else []
 | .J,[c,.cb true,y]=>bif b then []else k c false++k y false
 |_,_=>[]
def SF(k:SX->Bool->PC)(e:SX)(b:Bool):PC:=match e with
 | .O p l=>d86 k p l b
 |_=>[]
def dI0(c:SX×Bool)(b:Bool):SX×Bool:=(c.1,Tg c.2 b)
def dI1(k:SX->Bool->PC)(e:SX)(b:Bool):PC:=dI0 (Ew e) b::SF k e b
def Cz(n:Nat):SX->Bool->PC:=Nat.rec (motive:=λ_=>SX->Bool->PC) (λ_ _=>[]) (λ_ k=>dI1 k) n
abbrev iT:=PC->VT
def eh0(pc:PC)(k:SX->SX)(p:Prim)(l:Jn):SX:=match p,l with
 | .J,[c,a,b]=>(match qr pc 8 c with
   |some true=>k a
   |some false=>k b
   |none=> .O .J [c,a,b])
 | .and,[a,b]=>(match qr pc 8 a with
   |some true=>k b
   |_=>(match qr pc 8 b with
    |some true=>k a
    |_=> .O .and [a,b]))
 | .or,[a,b]=>(match qr pc 8 a with
   |some false=>k b
   |_=>(match qr pc 8 b with
    |some false=>k a
    |_=> .O .or [a,b]))
 | .not,[a]=> .O .not [k a]
 |p,l=> .O p l
def Xs(pc:PC)(k:SX->SX)(e:SX):SX:=match e with
 | .O p l=>eh0 pc k p l
 |e=>e
def GT(pc:PC)(n:Nat):SX->SX:=Nat.rec (motive:=λ_=>SX->SX) (λe=>e) (λ_ k=>Xs pc k) n
def dI2(pc:PC)(k:SX->SX)(p:Prim)(l:Jn):SX:=match p,l with
 | .J,[c,a,b]=>(match qr pc 8 c with
   |some true=>k a
   |some false=>k b
   |none=> .O .J [c,a,b])
 |p,l=> .O p l
def RV(pc:PC)(k:SX->SX)(e:SX):SX:=match e with
 | .O p l=>dI2 pc k p l
 |e=>e
def Nc(pc:PC)(n:Nat):SX->SX:=Nat.rec (motive:=λ_=>SX->SX) (λe=>e) (λ_ k=>RV pc k) n
def TG(e:SX)(x y:iT)(pc:PC)(b:AK):VT:=match b with
 |some true=>x pc
 |some false=>y pc
 |none=> .J (GT pc 16 e) (x (Cz 8 e true++pc)) (y (Cz 8 e false++pc))
def US(e:SX)(x:iT)(pc:PC)(b:AK):VT:=match b with
 |some true=>x pc
 |_=> .N (GT pc 16 e) (x (Cz 8 e true++pc))
def TO(l:List (AV×Heap))(f:AV×Heap->iT)(pc:PC):VT:=match l with
 | [x]=>f x pc
 | [x,y]=> .both (f x pc) (f y pc)
 |_=> .X
def xY(pc:PC):List iT->abg
 | []=>[]
 |k::r=>k pc::xY pc r
def mq:Alg iT:=⟨λ_=> .X,λl f pc=>TO l f pc,λe x y pc=>TG e x y pc (qr pc 8 e),λe x pc=>US e x pc (qr pc 8 e),λhd body ks pc=> .loop hd body (xY pc ks),λhd l body ks pc=> .mloop hd l body (xY pc ks)⟩
def eS(all:aay)(a:Fr)(o:Oper):AK:=
 match o.guard with
 |none=>some true
 |some (j,want)=>match(all[j]?).bind (·.dst)with
  |none=>none
  |some d=>bif Nat.blt d a.nt then match a.slot d with
   | .bool b=>some (b==want)
   | .H e=>match AH e a.pc with
     |some b=>some (b==want)
     |none=>none
   | .opq _=>none
   | .any=>none
   |_=>some false
   else some false
def wW(all:aay)(a:Fr)(o:Oper):aaD:=
 match o.guard with
 |none=>none
 |some (j,_)=>match(all[j]?).bind (·.dst)with
  |none=>none
  |some d=>match a.slot d with
   | .H e=>some e
   |_=>none
def Sw(P:uV)(a:Fr)(h:Heap):ResultVar->yU
 | .tmp t=>some (a.slot t)
 | .cell x t=>IX P t (a.slot x) h
def tG(P:uV)(a:Fr)(h:Heap):aaX->Option Fz
 | []=>some []
 |r::l=>match Sw P a h r,tG P a h l with
  |some v,some vs=>some (v::vs)
  |_,_=>none
def WW:Fz->AV
 | [v]=>v
 |vs=> .V vs
def vd:Fz->Nat->TF->TF
 | [],_,t=>t
 |v::r,i,t=>vd r (i+1) (t.set i v)
def eh1(nd:aaD)(e:SX):Bool:=match nd with
 |some x=>SX.beq x e
 |none=>false
def bW9(r:Res)(nd:aaD)(v:AV):Bool:=match r with
 | .val v' _=>AV.beq v' v
 | .N e v' _=>eh1 nd e&&AV.beq v' v
 |_=>false
def wo(E:Env)(a:Fr)(h:Heap):aaK->Bool
 | []=>true
 |p::r=>(gY p.o||bW9 (fE E a.ev p.o h) p.nd p.v)&&wo E a h r
def yC:AV->Bool
 | .bool _| .int _ _| .str _| .nilp| .N| .nilm| .nilf| .nili| .Z _ _| .K _| .H _=>true
 |_=>false
inductive Out where
 |plain (v:AV)
 |row (elem:Nat) (len sz:Nat) (cs:Fz)
 deriving Inhabited
abbrev aa4:= List Out
abbrev aaS:= Option (Bool×aa4)
def TN(wm:Nat)(h:Heap)(v:AV):Option Out:=
 match v with
 | .us b 0 len sz=>bif Nat.ble wm b then match h.get b with
   |some (.cells e 0 cs)=>bif Nat.beq cs.length (len*sz)&&cs.all yC then some (.row e len sz cs)else none
   |_=>none
   else none
 |v=>none
def vL(wm:Nat)(h:Heap):Fz->Option aa4
 | []=>some []
 |v::r=>match TN wm h v,vL wm h r with
  |some o,some os=>some (o::os)
  |_,_=>none
def tu:aa4->Nat
 | []=>0
 | .plain _::r=>tu r
 | .row _ _ _ _::r=>tu r+1
def UY(b:Bool)(l:aa4):aaS:=bif Nat.ble (tu l) 1 then some (b,l)else none
def Fu(wm:Nat)(h:Heap)(v:AV):aaS:=
 match v with
 | .V vs=>none
 |v=>(vL wm h [v]).bind (UY false)
def Out.beq:Out->Out->Bool
 | .plain a,.plain b=>false
 | .row e l s c,.row e' l' s' c'=>Nat.beq e e'&&Nat.beq l l'&&Nat.beq s s'&&AV.beqs c c'
 |_,_=>false
def OS:aa4->aa4->Bool
 | [],[]=>true
 |a::x,b::y=>Out.beq a b&&OS x y
 |_,_=>false
def dI3(x y:aaS):Bool:=
 match x,y with
 |some (a,l),some (b,m)=>(a==b)&&OS l m
 |_,_=>false
def nP:aa4->Heap->Fz×Heap
 | [],h=>([],h)
 | .plain v::r,h=>let (vs,h'):=nP r h;(v::vs,h')
 | .row e len sz cs::r,h=>let (vs,h'):=nP r (h.new (.cells e 0 cs));(.us h.next 0 len sz::vs,h')
def Ng(b:Bool)(l:aa4)(h:Heap):AV×Heap:=
 match nP l h with
 |(vs,h')=>(bif b then .V vs else vs.headD .undef,h')
def dI4(t:TH)(next _:Nat):Heap:=⟨t,next,next⟩
def Heap.raise(h:Heap):Heap:=Heap.rec dI4 h
abbrev ew:=(R:Type)->Alg R->Task R->R
section
variable{R:Type}
def eh2(rec:ew)(A:Alg R)(y:Code)(k:Ex->Fr->Heap->R)(e:Ex)(a:Fr)(h:Heap):R:=match e with
 | .norm=>rec R A (.code y a h k)
 |e=>k e a h
def PI(id:Nat)(k:Ex->Fr->Heap->R)(e:Ex)(a:Fr)(h:Heap):R:=match e with
 | .exit i=>bif Nat.beq i id then k .norm a h else k (.exit i) a h
 |e=>k e a h
def e40(rec:ew)(A:Alg R)(c:Code)(k:Ex->Fr->Heap->R)(e:Ex)(a:Fr)(h:Heap):R:=match e with
 | .norm=>rec R A (.loop c a h k)
 |e=>k e a h
def IA(ro:Bj)(k:Ex->Fr->Heap->R)(a:Fr)(h:Heap):R:=k .norm (a.back ro) h
def cn4(rec:ew)(A:Alg R)(x y:Code)(a:Fr)(h:Heap)(k:Ex->Fr->Heap->R)(e:SX)(p:AK):R:=match p with
 |some b=>rec R A (.code (bif b then x else y) a h k)
 |none=>A.J e (rec R A (.code x (a.cond (e,true)) h k)) (rec R A (.code y (a.cond (e,false)) h k))
def Xp(rec:ew)(A:Alg R)(x y:Code)(a:Fr)(h:Heap)(k:Ex->Fr->Heap->R)(v:yU):R:=match v with
 |some (.bool b)=>rec R A (.code (bif b then x else y) a h k)
 |some (.H e)=>cn4 rec A x y a h k e (AH e a.pc)
 |_=>A.X
def Ct:Code->Nat
 | .region id _ _=>id
 | .seq x _=>Ct x
 | .block _ b=>Ct b
 | .loop b=>Ct b
 | .scope b=>Ct b
 |_=>0
structure LSt where
 a:Fr
 h:Heap
def gH(id:Nat)(args:Jn)(j:Nat):SX:= .O .G [.Q id args,.C 1,.C j]
def dH(sp:LSpec)(a:Fr)(h:Heap):LSt:=⟨(eW (layDead a sp.dead) sp.head.slots).clear,iy h sp.head.blks⟩
def fG(sp:LSpec)(a:Fr)(h:Heap):LSt:=⟨layDead (layDead a sp.dead) (sp.head.slots.map (·.1)),iy h (sp.head.blks.map λp=>(p.1,none))⟩
def iA(sp:LSpec)(a:Fr)(h:Heap)(x:StP):LSt:=⟨(eW (fG sp a h).a x.slots).clear,(iy (fG sp a h).h x.blks).upto x.next⟩
def kU(sp:LSpec)(q:Nat->SX)(a:Fr)(h:Heap)(x:StP):LSt:=
 ⟨eW (fG sp a h).a (x.slots.map λp=>(p.1,tn sp.v0 q p.2)),(iy (fG sp a h).h (x.blks.map λp=>(p.1,BT sp.v0 q p.2))).upto x.next⟩
def uN(sp:LSpec)(a:Fr)(h:Heap)(e:Ex)(a':Fr)(h':Heap):List (Ex×StP)->Nat->VT
 | [],_=> .X
 |x::r,i=>bif DN x.1 e then(match tQ sp.v0 (iA sp a h x.2).a (iA sp a h x.2).h a' h' with
  |some es=> .W (i+1) es
  |none=>uN sp a h e a' h' r (i+1))else uN sp a h e a' h' r (i+1)
def Fl(t:Nat):HQ->Bool
 | []=>false
 |a::r=>bif Nat.beq a t then true else Fl t r
mutual
def rO:AV->HQ
 | .ptr b _=>[b]
 | .S b _ _ _=>[b]
 | .U b _ _=>[b]
 | .map b=>[b]
 | .agg l=>EE l
 | .func _ _ l=>EE l
 |_=>[]
def EE:Fz->HQ
 | []=>[]
 |a::r=>rO a++EE r
end
def dI5(h:Heap)(b:Nat):HQ:=match h.get b with
 |some (.cells _ _ cs)=>EE cs
 |_=>[]
def Uh(h:Heap):Nat->HQ->HQ->HQ
 |0,_,s=>s
 |_,[],s=>s
 |n+1,b::r,s=>bif Fl b s then Uh h n r s else Uh h n (dI5 h b++r) (b::s)
def dI6(a:Fr):Nat->HQ
 |0=>[]
 |t+1=>rO (a.slot t)++dI6 a t
def dI7(h:Heap):Nat->HQ
 |0=>[]
 |b+1=>dI5 h b++dI7 h b
def uC(s:HQ)(n0:Nat)(h:Heap):Nat->Heap
 |0=>h
 |k+1=>uC s n0 (bif Fl (n0+k) s then h else h.put (n0+k) none) k
def eo7(n0:Nat)(a:Fr)(h:Heap):Heap:=uC (Uh h 100000 (dI6 a a.nt++dI7 h n0) []) n0 h (h.next-n0)
def xT(sp:LSpec)(a:Fr)(h:Heap):Heap:=bif sp.owns.any (λo=>o.sig.isEmpty)then eo7 sp.head.next a h else h
def jj(sp:LSpec)(a:Fr)(h:Heap):Fr×Heap:=match xJ sp.owns (layDead a sp.dead) (xT sp (layDead a sp.dead) h)with
 |some p=>p
 |none=>(layDead a sp.dead,h)
def Vh(p:Prim)(l:Jn):Bool:=match p,l with
 | .cmp .leq,[.C 0,.O .Y [_]]=>true
 | .cmp .leq,[.C 0,.O .slen [_]]=>false
 | .cmp .leq,[.C a,.C b]=> !(lT b a)
 | .cmp .lss,[.C a,.C b]=>false
 |_,_=>false
def Io(e:SX):Bool:=match e with
 | .cb b=>b
 | .O p l=>Vh p l
 |_=>false
def FZ(e:SX):Bool:=match e with
 | .O .and [a,b]=>Io a&&Io b
 |e=>Io e
def Ft(e:SX):Bool:=match e with
 | .O .and [a,b]=>FZ a&&FZ b
 |e=>FZ e
def Pj(p:Prim)(l:Jn):Bool:=match p,l with
 | .cmp .leq,[.C a,.C b]=>false
 | .cmp .lss,[.C a,.C b]=>false
 | .bok,[.O .row []]=>false
 |_,_=>false
def dI8(p:Prim)(l:Jn):SX:=bif Pj p l then .cb true else .O p l
def Kt:Nat->SX->SX
 |0,e=>e
 |n+1,e=>match e with
  | .O .and [a,b]=>iC (Kt n a) (Kt n b)
  | .O p l=>dI8 p l
  |e=>e
def dI9(e:SX):Bool:=match e with
 | .O .and [.O .and [.O .and [_,_],_],_]=>true
 |_=>false
def dJ0(A:Alg R)(e:SX)(x:R):R:=match e with
 | .cb true=>x
 |e=>A.N e x
def needA(A:Alg R)(e:SX)(x:R):R:=bif Ft e then x else bif dI9 e then dJ0 A (Kt 30 e) x else A.N e x
def pU(o:OwnP)(a:Fr)(h:Heap):SX×Fr:=match o.cell,a.slot o.slot with
 |none,.U r len s=>(match h.get r with
  |some (.A _ _ l)=>bif Nat.beq r o.blk||SX.beq len (.O .Y [l])then(.cb true,a)else(.O (.cmp .eql) [len,.O .Y [l]],a.put (some o.slot) (.U r (.O .Y [l]) s))
  |_=>(.cb true,a))
 |_,_=>(.cb true,a)
def eU:aaM->Fr->Heap->SX×Fr
 | [],a,_=>(.cb true,a)
 |o::r,a,h=>match pU o a h with
  |(e,a')=>match eU r a' h with
   |(e',b)=>(iC e e',b)
def Qg(e:SX)(x:VT):VT:=bif Ft e then x else .N e x
def EM(sp:LSpec)(a:Fr)(h:Heap)(p:Fr×Heap):VT:=match tQ sp.v0 (dH sp a h).a (dH sp a h).h p.1 p.2 with
 |some es=> .W 0 es
 |none=> .X
def RI(sp:LSpec)(a:Fr)(h:Heap)(e:Ex)(p:Fr×Heap):VT:=uN sp a h e p.1 p.2 sp.exits 0
def dJ1(sp:LSpec)(a:Fr)(h:Heap)(e:Ex)(a':Fr)(h':Heap):VT:=match e with
 | .norm=>Qg (eU sp.owns a' h').1 (EM sp a h (jj sp (eU sp.owns a' h').2 h'))
 |e=>Qg (eU sp.owns a' h').1 (RI sp a h e (jj sp (eU sp.owns a' h').2 h'))
def xF(sp:LSpec)(a:Fr)(h:Heap)(e:Ex)(a':Fr)(h':Heap)(_:PC):VT:=dJ1 sp a h e a' h'
def Cb(sp:LSpec)(a:Fr)(h:Heap)(n0:Nat):Bool:=sp.owns.all (λo=>Nat.ble n0 o.blk)&&NU a h n0 h.next sp.head.blks&&sp.exits.all (λx=>Nat.ble h.next x.2.next&&NU a h n0 x.2.next x.2.blks)&&tf sp.v0 sp.fv&&tV a&&yz sp.v0 h.next (fG sp a h).a a.nt&&MV sp.v0 h.next (fG sp a h).h h.next
def MK(rec:ew)(A:Alg R)(c:Code)(n0:Nat)(k:Ex->Fr->Heap->R)(sp:LSpec)(a:Fr)(h:Heap):R:=
 bif Cb sp a h n0 then
  (match tQ sp.v0 (dH sp a h).a (dH sp a h).h a h with
  |some s0=>A.loop ⟨sp.id,s0,sp.v0,sp.fv⟩ (rec iT mq (.code c (dH sp a h).a (dH sp a h).h (xF sp a h)) [])
   (sp.exits.map λx=>k x.1 (kU sp (gH sp.id (s0++sp.fv)) a h x.2).a (kU sp (gH sp.id (s0++sp.fv)) a h x.2).h)
  |none=>A.X)
 else A.X
structure MC where
 ops1:aaU
 o1:Oper
 o2:Oper
 tok:vE
 xid:Nat
 bid:Nat
 ops2:aaU
 o3:Oper
 r3:aay
 rest:Code
def Di(c:Code):Option MC:=match c with
 | .seq (.region _ ops1 false) (.seq (.cond tok .skip (.exit x)) (.block b (.seq (.region _ ops2 false) rest)))=>(match ops1.toList,ops2.toList with
   | [o1,o2],o3::r3=>some ⟨ops1,o1,o2,tok,x,b,ops2,o3,r3,rest⟩
   |_,_=>none)
 |_=>none
structure MO where
 it:Nat
 d1:Nat
 d2:Nat
 d3:Nat
def xN(o:Oper):Bool:=match o.guard with
 |none=>true
 |some _=>false
def e41(it d1 d2 d3:Nat)(nt:Nat)(o1 o2 o3:Oper):Option MO:=bif xN o1&&xN o2&&xN o3&&Nat.blt d1 nt&&Nat.blt d2 nt&& !(Nat.beq d1 d2)then some ⟨it,d1,d2,d3⟩else none
def Qp(m:MC)(a:Fr):Option MO:=match m.o1.op,m.o1.dst,m.o2.op,m.o2.dst,m.tok,m.o3.op,m.o3.dst with
 | .next (.tmp t) false,some d1,.extract (.tmp d1') 0,some d2,.tmp d2',.entry (.tmp t'),some d3=>bif Nat.beq d1 d1'&&Nat.beq d2 d2'&&Nat.beq t t'&& !(Nat.beq t d1)&& !(Nat.beq t d2)then(match a.slot t with
   | .ptr it 0=>e41 it d1 d2 d3 a.nt m.o1 m.o2 m.o3
   |_=>none)else none
 |_,_,_,_,_,_,_=>none
def eo8(b:Nat)(p:Nat×sP):Nat×sP:=bif Nat.beq p.1 b then(match p.2 with
 |some (.A e sig l)=>(p.1,some (.bag e sig l))
 |_=>p)else p
def JG(sp:LSpec)(it m ob:Nat)(lm:SX):LSpec:=⟨sp.id,sp.owns,sp.v0,sp.fv++[lm],sp.dead,⟨sp.head.slots,(it,none)::(m,none)::sp.head.blks,sp.head.next⟩,sp.exits.map λx=>(x.1,⟨x.2.slots,x.2.blks.map (eo8 ob),x.2.next⟩),true⟩
def JQ(ks vs:zd)(l idx:SX):AV:= .V [mh (Hx (ks++vs) l idx 0 ks.length),mh (Hx (ks++vs) l idx ks.length vs.length)]
def dJ2(rec:ew)(sp:LSpec)(mc:MC)(a:Fr)(h:Heap)(a3:Fr):VT:=rec iT mq (.ops mc.ops2.toList mc.r3 a3 (dH sp a h).h (IA none (eh2 rec mq mc.rest (PI mc.bid (xF sp a h))))) []
def OA(v0 nb ob b:Nat)(x:sP):Bool:=bif Nat.beq b ob then(match x with
 |some (.A _ _ (.V n))=>Nat.beq n (v0+1)
 |_=>false)else AE (v0+1) nb x
def DH(v0 nb ob:Nat)(h:Heap):Nat->Bool
 |0=>true
 |t+1=>OA v0 nb ob t (h.get t)&&DH v0 nb ob h t
def Jg(x:sP):sP:=match x with
 |some (.A e sig l)=>some (.bag e sig l)
 |x=>none
def JC(x:sP):Bool:=match x with
 |none=>true
 |some _=>false
def YL(v0:Nat)(es:Jn):Bool:=match es with
 | [.V n,.V m]=>Nat.beq n v0&&Nat.beq m (v0+1)
 |_=>false
def Jv(h1 h2:Heap):Nat->Bool
 |0=>true
 |t+1=>(JC (h1.get t)|| !(JC (h2.get t)))&&Jv h1 h2 t
def wt(sp:LSpec)(mo:MO)(a:Fr)(h:Heap):Fr:=((dH sp a h).a.put (some mo.d1) (.V [.bool false])).put (some mo.d2) (.bool false)
def NR(sp:LSpec)(mo:MO)(ob:Nat)(a:Fr)(h:Heap)(x:StP):Bool:=match tQ sp.v0 (iA sp a h x).a (iA sp a h x).h (wt sp mo a h) ((dH sp a h).h.put ob (Jg ((dH sp a h).h.get ob)))with
 |some es=>YL sp.v0 es
 |none=>false
def KA(sp:LSpec)(a:Fr)(h:Heap)(n0:Nat)(mo:MO)(m ob:Nat)(lm:SX):Bool:=
 Cb sp a h n0&&Nat.ble h.wm n0&&Nat.ble h.wm mo.it&&Nat.blt m n0&&Nat.ble n0 ob&&Nat.blt mo.it n0&&JC ((dH sp a h).h.get mo.it)&&JC ((dH sp a h).h.get m)&&fT sp.v0 lm&&
 yz (sp.v0+1) h.next (dH sp a h).a a.nt&&yz (sp.v0+1) h.next (wt sp mo a h) a.nt&&DH sp.v0 h.next ob (dH sp a h).h h.next
def Qm(rec:ew)(A:Alg R)(n0:Nat)(k:Ex->Fr->Heap->R)(sp:LSpec)(a:Fr)(h:Heap)(mc:MC)(mo:MO)(m ob:Nat)(d:Bool)(ks vs:zd)(lm:SX)(x:Ex×StP):R:=match x.1 with
 | .exit xid=>bif Nat.beq xid mc.xid&&KA sp a h n0 mo m ob lm&&Nat.blt m x.2.next&&NR sp mo ob a h x.2 then(match tQ sp.v0 (dH sp a h).a (dH sp a h).h a h with
  |some [s0,s1]=>bif Jv (kU sp (gH sp.id (s0::s1::sp.fv)) a h x.2).h (dH sp a h).h x.2.next then A.mloop ⟨sp.id,[s0,s1],sp.v0,sp.fv⟩ lm
   (dJ2 rec sp mc a h ((((dH sp a h).a.put (some mo.d1) .any).put (some mo.d2) (.bool true)).put (some mo.d3) (JQ ks vs lm (.V (sp.v0+2)))))
   [k x.1 (kU sp (gH sp.id (s0::s1::sp.fv)) a h x.2).a ((kU sp (gH sp.id (s0::s1::sp.fv)) a h x.2).h.put m (some (.marr d ks vs lm)))]else A.X
  |_=>A.X)else A.X
 |_=>A.X
def Xn(rec:ew)(A:Alg R)(n0:Nat)(k:Ex->Fr->Heap->R)(sp:LSpec)(a:Fr)(h:Heap)(mc:MC)(mo:MO)(m:Nat)(b:sP)(o:aaM):R:=match b,o with
 |some (.mrg it' d ks vs lm),[o]=>bif Nat.beq it' mo.it then(match(JG sp mo.it m o.blk lm).exits with
  | [x]=>Qm rec A n0 k (JG sp mo.it m o.blk lm) a h mc mo m o.blk d ks vs lm x
  |_=>A.X)else A.X
 |_,_=>A.X
def Uw(rec:ew)(A:Alg R)(n0:Nat)(k:Ex->Fr->Heap->R)(sp:LSpec)(a:Fr)(h:Heap)(mc:MC)(mo:Option MO):R:=match mo with
 |some mo=>(match h.get mo.it with
  |some (.mit m)=>Xn rec A n0 k sp a h mc mo m (h.get m) sp.owns
  |_=>A.X)
 |none=>A.X
def Jq(rec:ew)(A:Alg R)(n0:Nat)(k:Ex->Fr->Heap->R)(sp:LSpec)(a:Fr)(h:Heap)(mc:Option MC):R:=match mc with
 |some mc=>Uw rec A n0 k sp a h mc (Qp mc (dH sp a h).a)
 |none=>A.X
def Xf(rec:ew)(A:Alg R)(c:Code)(n0:Nat)(k:Ex->Fr->Heap->R)(sp:LSpec)(p:Fr×Heap):R:=bif sp.mapr then Jq rec A n0 k sp p.1 p.2 (Di c)else MK rec A c n0 k sp p.1 p.2
def Yd(rec:ew)(A:Alg R)(c:Code)(a:Fr)(h:Heap)(k:Ex->Fr->Heap->R)(sp:LSpec):R:=
 bif tV a then needA A (eU sp.owns a h).1 (Xf rec A c h.next k sp (jj sp (eU sp.owns a h).2 (h.upto (Nat.add h.next sp.owns.length))))else A.X
def dJ5(rec:ew)(A:Alg R)(c:Code)(a:Fr)(h:Heap)(k:Ex->Fr->Heap->R)(sp:Option LSpec):R:=match sp with
 |some sp=>Yd rec A c a h k sp
 |none=>rec R A (.code c a h (e40 rec A c k))
def dJ6(rec:ew)(A:Alg R)(ops:aay)(a:Fr)(h:Heap)(k:Ex->Fr->Heap->R)(p:Option aaG):R:=match p with
 |some l=>rec R A (.dops ops l [] a h (IA a.ro k))
 |none=>A.X
def dj2(rec:ew)(A:Alg R)(ops:aay)(draw:Bool)(a:Fr)(h:Heap)(k:Ex->Fr->Heap->R):R:=
 bif draw then dJ6 rec A ops a h k (GM ops)else rec R A (.ops ops ops a h (IA a.ro k))
def dJ7(E:Env)(rec:ew)(A:Alg R)(c:Code)(a:Fr)(h:Heap)(k:Ex->Fr->Heap->R):R:=match c with
 | .skip=>k .norm a h
 | .label _=>k .norm a h
 | .ret=>k .ret a h
 | .exit id=>k (.exit id) a h
 | .seq x y=>rec R A (.code x a h (eh2 rec A y k))
 | .cond c x y=>Xp rec A x y a h k (a.ev c)
 | .block id b=>rec R A (.code b a h (PI id k))
 | .loop b=>rec R A (.loop b a h k)
 | .scope b=>rec R A (.code b a h k)
 | .region _ ops draw=>dj2 rec A ops.toList draw a h k
 | .rangeFunc f ps assign body=>A.X
 |_=>A.X
def Ou(rec:ew)(A:Alg R)(h:Heap)(k:AV->Heap->R)(r:Res):R:=match r with
 | .val v h=>k v h
 | .N e v h=>needA A e (k v h)
 | .cho e v l h=>A.J e (k v h) (A.amb (l.map λv=>(v,h)) λx=>k x.1 x.2)
 | .enter f args=>rec R A (.call f args h k)
 | .choice l=>A.amb l λx=>k x.1 x.2
 | .yield l args=>A.X
 | .defer _=>A.X
 | .X=>A.X
def kOp(rec:ew)(A:Alg R)(all rest:aay)(dst:aaJ)(a:Fr)(k:Fr->Heap->R)(v:AV)(h:Heap):R:=rec R A (.ops all rest (a.put dst v) h k)
def cn9(rec:ew)(A:Alg R)(all rest:aay)(a:Fr)(h:Heap)(k:Fr->Heap->R)(e:aaD):R:=match e with
 |some e=>A.J e (rec R A (.ops all rest (a.cond (e,true)) h k)) (rec R A (.ops all rest (a.cond (e,false)) h k))
 |none=>A.X
def Vp(rec:ew)(A:Alg R)(all rest:aay)(dst:aaJ)(a:Fr)(h:Heap)(k:Fr->Heap->R)(r:Res):R:=match r with
 | .defer d=>match a.ro with
   |none=>A.X
   |some _=>A.X
 |r=>Ou rec A h (kOp rec A all rest dst a k) r
def dJ8(E:Env)(rec:ew)(A:Alg R)(all rest:aay)(o:Oper)(a:Fr)(h:Heap)(k:Fr->Heap->R)(w:AK):R:=match w with
 |some true=>Vp rec A all rest o.dst a h k (fE E a.ev o h)
 |some false=>rec R A (.ops all rest (a.put o.dst .undef) h k)
 |none=>cn9 rec A all (o::rest) a h k (wW all a o)
def e42(E:Env)(rec:ew)(A:Alg R)(all rest:aay)(a:Fr)(h:Heap)(k:Fr->Heap->R):R:=match rest with
 | []=>k a h
 |o::rest=>dJ8 E rec A all rest o a h k (eS all a o)
def eh3(E:Env)(rec:ew)(A:Alg R)(all:aay)(rest:aaG)(pend:aaK)(dst:aaJ)(a:Fr)(k:Fr->Heap->R)(v:AV)(h:Heap):R:=
 bif wo E (a.put dst v) h pend then rec R A (.dops all rest pend (a.put dst v) h k)else A.X
def XN(E:Env)(rec:ew)(A:Alg R)(all:aay)(x:PO)(rest:aaG)(pend:aaK)(a:Fr)(k:Fr->Heap->R)(r:Res):R:=match r with
 | .val v h=>bif !(gY x.o)||wo E (a.put x.o.dst v) h pend then rec R A (.dops all rest (⟨x.i,x.o,v,none⟩::pend) (a.put x.o.dst v) h k)else A.X
 | .N e v h=>bif !(gY x.o)then needA A e (rec R A (.dops all rest (⟨x.i,x.o,v,some e⟩::pend) (a.put x.o.dst v) h k))else A.X
 |_=>A.X
def TK(rec:ew)(A:Alg R)(all:aay)(rest:aaG)(pend:aaK)(a:Fr)(h:Heap)(k:Fr->Heap->R)(e:aaD):R:=match e with
 |some e=>A.J e (rec R A (.dops all rest pend (a.cond (e,true)) h k)) (rec R A (.dops all rest pend (a.cond (e,false)) h k))
 |none=>A.X
def Fv(E:Env)(rec:ew)(A:Alg R)(all:aay)(x:PO)(rest:aaG)(pend:aaK)(a:Fr)(h:Heap)(k:Fr->Heap->R)(w:AK):R:=match w with
 |some true=>bif x.fl then XN E rec A all x rest pend a k (fE E a.ev x.o h)
  else Ou rec A h (eh3 E rec A all rest (pend.filter λp=> !(x.m.testBit p.i)) x.o.dst a k) (fE E a.ev x.o h)
 |some false=>rec R A (.dops all rest pend (a.put x.o.dst .undef) h k)
 |none=>TK rec A all (x::rest) pend a h k (wW all a x.o)
def dJ9(E:Env)(rec:ew)(A:Alg R)(all:aay)(rest:aaG)(pend:aaK)(a:Fr)(h:Heap)(k:Fr->Heap->R):R:=match rest with
 | []=>k a h
 |x::rest=>Fv E rec A all x rest pend a h k (eS all a x.o)
def Uy(v:AV)(h:Heap):aat:=some (v,h)
def DM(wm:Nat)(o:aaS)(v:AV)(h:Heap):Bool:=dI3 (Fu wm h v) o
def eo9(k:AV->Heap->R)(x:AV×Heap):R:=k x.1 x.2
def Xi(rec:ew)(A:Alg R)(f:FuncId)(args:Fz)(h:Heap)(k:AV->Heap->R)(x:aat):R:=match x with
 |none=>A.X
 |some (v0,h0)=>A.X
structure Cap2 where
 b:Nat
 full:Fz
 wide:Fz
 h:Heap
def capH(h:Heap)(b e:Nat)(cs:Fz):Heap:=((h.put b none).raise).new (.cells e 0 cs)
def Pr(args:Fz)(h:Heap):Option Cap2:=match args with
 | .us b 0 len sz:: .int k (.ofNat i)::rest=>match h.get b with
   |some (.cells e 0 cs)=>bif Nat.ble h.wm b&&Nat.beq cs.length (len*sz)&&Nat.blt i len&&Nat.blt 0 sz then
    some ⟨b,.sl b 0 len len:: .int k (.ofNat i)::rest,.us h.next 0 len sz:: .int k (.ofNat i)::rest,capH h b e (cs++dP sz [.any])⟩
    else none
   |_=>none
 |_=>none
def d87(rec:ew)(A:Alg R)(f:FuncId)(h:Heap)(k:AV->Heap->R)(c:Cap2)(x:aaS):R:=match x with
 |none=>A.X
 |some (b,l)=>bif rec Bool wY (.body f c.full h.raise (DM h.next (some (b,l))))&&rec Bool wY (.body f c.wide c.h (DM h.next (some (b,l))))then
  eo9 k (Ng b l (h.put c.b none))else A.X
def d88(rec:ew)(A:Alg R)(f:FuncId)(h:Heap)(k:AV->Heap->R)(c:Cap2)(x:aat):R:=match x with
 |none=>A.X
 |some (v0,h0)=>d87 rec A f h k c (Fu h.next h0 v0)
def Yn(rec:ew)(A:Alg R)(f:FuncId)(args:Fz)(h:Heap)(k:AV->Heap->R)(c:Option Cap2):R:=match c with
 |none=>rec R A (.body f args h k)
 |some c=>d88 rec A f h k c (rec aat Vi (.body f c.full h.raise Uy))
def dK0(E:Env)(rec:ew)(A:Alg R)(f:FuncId)(args:Fz)(h:Heap)(k:AV->Heap->R)(x:Res):R:=match x with
 | .val v h=>k v h
 | .N e v h=>needA A e (k v h)
 |_=>bif E.amb f then Xi rec A f args h k (rec aat Vi (.body f args h.raise Uy))else
  bif E.caps f then Yn rec A f args h k (Pr args h)else rec R A (.body f args h k)
def dK1(E:Env)(rec:ew)(A:Alg R)(f:FuncId)(args:Fz)(h:Heap)(k:AV->Heap->R):R:=dK0 E rec A f args h k (E.hook f args h)
def MQ(A:Alg R)(h:Heap)(k:AV->Heap->R)(vs:Option Fz):R:=match vs with
 |some vs=>k (WW vs) h
 |none=>A.X
def d89(P:uV)(rec:ew)(A:Alg R)(rs:aaX)(k:AV->Heap->R)(e:Ex)(a:Fr)(h:Heap):R:=match e with
 | .exit _=>A.X
 |_=>match a.ds with
  | []=>MQ A h k (tG P a h rs)
  |ds=>rec R A (.leave rs a ds h k)
def YO(P:uV)(rec:ew)(A:Alg R)(f:FuncId)(args:Fz)(h:Heap)(k:AV->Heap->R)(fn:Option Func):R:=match fn with
 |none=>A.X
 |some fn=>match fn.body with
  |none=>A.X
  |some c=>bif Nat.ble (Nat.max fn.ntmps args.length) 256 then rec R A (.code c ⟨vd args 0 TF.empty,Nat.max fn.ntmps args.length,[],f,[],none⟩ h (d89 P rec A fn.results.toList k))else A.X
def Rd(P:uV)(rec:ew)(A:Alg R)(f:FuncId)(args:Fz)(h:Heap)(k:AV->Heap->R)(fn:Option Func):R:=match fn with
 |none=>A.X
 |some fn=>A.X
def UK(rec:ew)(A:Alg R)(rs:aaX)(a:Fr)(ds:aaH)(h:Heap)(k:AV->Heap->R)(r:Res):R:=match r with
 | .enter f args=>A.X
 |_=>A.X
def YB(rec:ew)(A:Alg R)(rs:aaX)(a:Fr)(ds:aaH)(b:Nat)(h:Heap)(k:AV->Heap->R)(x:sP):R:=match x with
 |some (.defd false)=>bif Nat.ble h.wm b then rec R A (.leave rs a ds (h.put b (some (.defd true))) k)else A.X
 |_=>A.X
def dj8(E:Env)(rec:ew)(A:Alg R)(rs:aaX)(a:Fr)(ds:aaH)(h:Heap)(k:AV->Heap->R):R:=match ds with
 | []=>MQ A h k (tG E.P a h rs)
 | .coll b::ds=>YB rec A rs a ds b h k (h.get b)
 | .fn f cap args::ds=>UK rec A rs a ds h k (Eh E f (args++cap) h)
def dK2(E:Env)(rec:ew)(A:Alg R)(f:FuncId)(args:Fz)(h:Heap)(k:AV->Heap->R):R:=YO E.P rec A f args h k (E.P.funcs[f]?)
def dK3(E:Env)(rec:ew)(A:Alg R)(t:Task R):R:=match t with
 | .code c a h k=>dJ7 E rec A c a h k
 | .loop c a h k=>dJ5 rec A c a h k (E.lspec a.fn (Ct c) a h)
 | .ops all rest a h k=>e42 E rec A all rest a h k
 | .dops all rest pend a h k=>dJ9 E rec A all rest pend a h k
 | .call f args h k=>dK1 E rec A f args h k
 | .body f args h k=>dK2 E rec A f args h k
 | .dbody f args h k=>Rd E.P rec A f args h k (E.P.funcs[f]?)
 | .leave rs a ds h k=>dj8 E rec A rs a ds h k
end
def ep0(R:Type)(A:Alg R)(_:Task R):R:=A.X
def evS(E:Env)(_:Nat)(rec:ew)(R:Type)(A:Alg R)(t:Task R):R:=dK3 E rec A t
def ev(E:Env)(n:Nat):ew:=Nat.rec (motive:=λ_=>ew) ep0 (evS E) n
end
def ER{a b c d:Prop}(f:a->c)(g:b->d)(h:a\/b):c\/d:=by grind
theorem jv{a b:Nat}(h:a<b):Nat.blt a b=true:=by simpa using h
theorem jA{a b:Nat}(h: ¬a<b):Nat.blt a b=false:=by
 cases e:Nat.blt a b with
 |false=>rfl
 |true=>(simp at*;omega)
theorem eH{a b:Nat}:Nat.blt a b=true↔a<b:=by simp
theorem cV{a b:Nat}:Nat.ble a b=true↔a<=b:=by simp
theorem Y0{a b:Nat}:Nat.beq a b=true↔a=b:=by simp
def Do(i j:Nat)(hi:i<16)(hj:j<16)(α:Type)(x:α)(t:P16 α):
 (tL i).g α ((tL j).s α x t)=if i=j then x else(tL i).g α t:=by
 have hi':i=0\/i=1\/i=2\/i=3\/i=4\/i=5\/i=6\/i=7\/i=8\/i=9\/i=10\/i=11\/i=12\/i=13\/i=14\/i=15:=by omega
 have hj':j=0\/j=1\/j=2\/j=3\/j=4\/j=5\/j=6\/j=7\/j=8\/j=9\/j=10\/j=11\/j=12\/j=13\/j=14\/j=15:=by omega
 rcases hi' with rfl|rfl|rfl|rfl|rfl|rfl|rfl|rfl|rfl|rfl|rfl|rfl|rfl|rfl|rfl|rfl<;>
 rcases hj' with rfl|rfl|rfl|rfl|rfl|rfl|rfl|rfl|rfl|rfl|rfl|rfl|rfl|rfl|rfl|rfl<;>rfl
theorem bX2(i:Nat)(hi:i<16)(α:Type)(x:α):(tL i).g α (P16.const x)=x:=by
 have hi':i=0\/i=1\/i=2\/i=3\/i=4\/i=5\/i=6\/i=7\/i=8\/i=9\/i=10\/i=11\/i=12\/i=13\/i=14\/i=15:=by omega
 rcases hi' with rfl|rfl|rfl|rfl|rfl|rfl|rfl|rfl|rfl|rfl|rfl|rfl|rfl|rfl|rfl|rfl<;>rfl
def TF.get_empty(n:Nat):TF.get TF.empty n= .undef:=by unfold TF.get Gg;by_cases h:n<256;rw[jv h];simp[cond_true,SO,TF.empty,eg0];grind[bX2];rw[jA h];rfl
def TF.get_set(t:TF)(m n:Nat)(v:AV)(hm:m<256):(TF.set t m v).get n=if n=m then v else t.get n:=by
 unfold TF.get TF.set Gg;rw[jv hm];by_cases h:n<256;rw[jv h];simp[cond_true,SO];rw[Do _ _ (by omega) (by omega)];by_cases h1:n/16=m/16;rw[c9 h1,Do _ _ (by omega) (by omega)]
 (split<;>grind);grind;rw[jA h];simp[cond_false,ef9];grind
def dK4(b b':Nat)(x:sP)(t:TH):(vR b').g ((vR b).s x t)=if b'=b then(if b<65536 then x else none)else(vR b').g t:=by
 unfold vR;by_cases h:b<65536;rw[show(!(Nat.blt b 65536))=false by simp_all,c9 h];by_cases h':b'<65536;rw[show(!(Nat.blt b' 65536))=false by rw[jv h'];rfl];simp[cond_false,Xr];rw[Do _ _ (by omega) (by omega)];by_cases h1:b'/4096=b/4096;rw[c9 h1,Do _ _ (by omega) (by omega)];by_cases h2:b'/256 % 16=b/256 % 16;rw[c9 h2,Do _ _ (by omega) (by omega)];by_cases h3:b'/16 % 16=b/16 % 16;rw[c9 h3,Do _ _ (by omega) (by omega)];by_cases h4:b' % 16=b % 16;rw[c9 h4,c9 (by omega)];rw[b9 h4,b9 (by omega),h1,h2,h3];rw[b9 h3,b9 (by omega),h1,h2]
 (split<;>grind);grind;rw[show(!(Nat.blt b' 65536))=true by rw[jA h'];rfl];simp[cond_true,PK];grind;rw[show(!(Nat.blt b 65536))=true by rw[jA h];rfl,b9 h];simp only[cond_true,PK];by_cases e:b'=b;subst e;rw[show(!(Nat.blt b' 65536))=true by rw[jA h];rfl];simp;grind
def Heap.get_put(h:Heap)(b b':Nat)(x:sP):(h.put b x).get b'=if b'=b then(if b<65536 then x else none)else h.get b':=by exact dK4 b b' x _
def Heap.get_new(h:Heap)(b':Nat)(x:Blk):(h.new x).get b'=if b'=h.next then(if h.next<65536 then some x else none)else h.get b':=by exact dK4 _ b' (some x) _
@[simp]theorem Heap.next_put(h:Heap)(b:Nat)(x:sP):(h.put b x).next=h.next:=rfl
@[simp]def Heap.wm_put(h:Heap)(b:Nat)(x:sP):(h.put b x).wm=h.wm:=rfl
@[simp]theorem Heap.next_new(h:Heap)(x:Blk):(h.new x).next=h.next+1:=rfl
@[simp]def Heap.wm_new(h:Heap)(x:Blk):(h.new x).wm=h.wm:=rfl
def Heap.get_lim(h:Heap)(b:Nat)(x:Blk)(e:h.get b=some x):b<65536:=by grind[Heap.get,fc,vR,Nat.blt,jA,PK]
def Heap.get_empty(b:Nat):Heap.empty.get b=none:=by simp only[Heap.get,Heap.empty,fc,vR];by_cases hb:b<65536;rw[show(!(Nat.blt b 65536))=false by rw[jv hb];rfl];simp[cond_false,Xr,NQ,OO,dG1];grind[bX2];rw[show(!(Nat.blt b 65536))=true by grind[jA]];rfl
structure Loc where
 blk:Nat
 off:Nat
 ext:Nat
abbrev aa8:= Option Loc
abbrev cn:=Nat->aa8
structure Opq where
 v:Nat->AS
 w:Nat->Val
 f:Nat->U0->Val
 one: ∀n,(v n).oneCell'=true
 fix:Bg->Bool
 gh:Nat->aaV
def gC(x y:qw):Bool:=ii x y
def cr(op:BinOp)(k:IntKind)(x y:Int):Int:=match op with
 | .add=>k.wrap (x+y)
 | .sub=>k.wrap (x-y)
 | .mul=>k.wrap (x*y)
 | .quo=>k.wrap (x.tdiv y)
 | .rem=>x.tmod y
 | .shl=>k.wrap (x*2^(min y.toNat k.bits))
 | .shr=>x.fdiv (2^(min y.toNat k.bits))
 | .and=>k.wrap ((BitVec.ofInt k.bits x&&&BitVec.ofInt k.bits y).toNat)
 | .or=>k.wrap ((BitVec.ofInt k.bits x|||BitVec.ofInt k.bits y).toNat)
 | .xor=>k.wrap ((BitVec.ofInt k.bits x^^^BitVec.ofInt k.bits y).toNat)
 | .andNot=>k.wrap ((BitVec.ofInt k.bits x&&& ~~~(BitVec.ofInt k.bits y)).toNat)
 |_=>0
def js(op:BinOp)(x y:Int):Bool:=match op with
 | .eql=>decide (x=y)
 | .neq=> !decide (x=y)
 | .lss=>decide (x<y)
 | .leq=>decide (x<=y)
 | .gtr=>decide (y<x)
 | .geq=>decide (y<=x)
 |_=>false
def lC(op:BinOp)(x y:qw):Bool:=match op with
 | .eql=>decide (x=y)
 | .neq=> !decide (x=y)
 | .lss=>gC x y
 | .leq=> !gC y x
 | .gtr=>gC y x
 | .geq=> !gC x y
 |_=>false
def unI(op:UnOp)(k:IntKind)(x:Int):Int:=match op with
 | .neg=>k.wrap (0-x)
 | .xor=>k.wrap ((BitVec.ofInt k.bits (if k.signed then-1 else k.max)^^^BitVec.ofInt k.bits x).toNat)
 |_=>0
def ck(l:U0)(i:Int)(j:Int):Val:=(l.getD i.toNat (.A [])).L.getD j.toNat default
def KO(c:CT)(x y:Val):Bool:=match c with
 | .int _=>decide (x.I=y.I)
 | .str=>decide (x.S=y.S)
 | .bool=>x.Z==y.Z
def zZ(r k:Val):zd->Nat->Bool
 | [],_=>true
 |c::cs,j=>KO c (k.L.getD j default) (r.L.getD j default)&&zZ r k cs (j+1)
def gV(ks:zd)(r k:Val):Bool:=zZ r k ks 0
def cB:Prim->U0->Val
 | .ar op k,[a,b]=> .D (cr op k a.I b.I)
 | .cmp op,[a,b]=> .B (js op a.I b.I)
 | .scmp op,[a,b]=> .B (lC op a.S b.S)
 | .cat,[a,b]=> .vs (a.S++b.S)
 | .not,[a]=> .B (!a.Z)
 | .and,[a,b]=> .B (a.Z&&b.Z)
 | .or,[a,b]=> .B (a.Z||b.Z)
 | .beq,[a,b]=> .B (a.Z==b.Z)
 | .J,[a,b,c]=>bif a.Z then b else c
 | .un op k,[a]=> .D (unI op k a.I)
 | .conv k,[a]=> .D (k.wrap a.I)
 | .slen,[a]=> .D a.S.length
 | .sat,[a,i]=> .D (a.S.getD i.I.toNat 0).toNat
 | .ssub,[a,i,j]=> .vs ((a.S.drop i.I.toNat).take (j.I-i.I).toNat)
 | .Y,[a]=> .D a.L.length
 | .G,[a,i,j]=>ck a.L i.I j.I
 | .lset,[a,i,r]=> .A (a.L.set i.I.toNat r)
 | .lcat,[a,b]=> .A (a.L++b.L)
 | .lsub,[a,i,j]=> .A ((a.L.drop i.I.toNat).take (j.I-i.I).toNat)
 | .row,l=> .A l
 | .imin,[a,b]=> .D (min a.I b.I)
 | .iadd,[a,b]=> .D (a.I+b.I)
 | .isub,[a,b]=> .D (a.I-b.I)
 | .imax,[a,b]=> .D (max a.I b.I)
 | .lrep,[n,r]=> .A (List.replicate n.I.toNat r)
 | .scnt,[a,c]=> .D (Ra c.I.toNat a.S:Nat)
 | .sidx,[a,c]=> .D (dG5 c.I.toNat a.S)
 | .sbytes,[a]=> .A (a.S.map λb=> .A [.D b.toNat])
 | .mfind ks,[l,k]=> .D (l.L.findIdx λr=>gV ks r k:Nat)
 | .mdel ks,[l,k]=> .A (l.L.eraseIdx (l.L.findIdx λr=>gV ks r k))
 | .bok,[a]=> .B (a.L.all λr=>decide (0<=(r.L.getD 0 default).I)&&decide ((r.L.getD 0 default).I<256))
 | .bstr,[a]=> .vs (a.L.map λr=>UInt8.ofNat (r.L.getD 0 default).I.toNat)
 |_,_=> .B false
mutual
def bZ(I:Opq):SX->Val
 | .C n=> .D n
 | .cs l=> .vs l
 | .cb x=> .B x
 | .V n=>I.w n
 | .O p l=>cB p (Y6 I l)
 | .Q f l=>I.f f (Y6 I l)
def Y6(I:Opq):Jn->U0
 | []=>[]
 |a::r=>bZ I a::Y6 I r
end
def dI(I:Opq)(e:SX):Int:=(bZ I e).I
def dS(I:Opq)(e:SX):qw:=(bZ I e).S
def dB(I:Opq)(e:SX):Bool:=(bZ I e).Z
def dL(I:Opq)(e:SX):U0:=(bZ I e).L
def Opq.U(I:Opq)(v0:Nat)(l:U0):Opq:=⟨I.v,λn=>if v0<=n then l.getD (n-v0) (.B false)else I.w n,I.f,I.one,I.fix,I.gh⟩
inductive Iter (step:U0->Option (Nat×U0)):U0->Nat->U0->Prop where
 |out {vs p:U0} {i:Nat}:step vs=some (i+1,p)->Iter step vs i p
 |more {vs vs' p:U0} {i:Nat}:step vs=some (0,vs')->Iter step vs' i p->Iter step vs i p
def Iter.uniq{step:U0->Option (Nat×U0)}{vs:U0}{i j:Nat}{p q:U0}(a:Iter step vs i p)(b:Iter step vs j q):i=j/\p=q:=by
 induction a with
 |out h=>
  cases b with
  |out h'=>grind
  |more h' _=>grind
 |more h _ ih=>
  cases b with
  |out h'=>grind
  |more h' k=>grind
open Classical in
def cQ(step:U0->Option (Nat×U0))(vs:U0):Option (Nat×U0):=
 if h: ∃r:Nat×U0,Iter step vs r.1 r.2 then some (Classical.choose h)else none
theorem kK{step:U0->Option (Nat×U0)}{vs:U0}{i:Nat}{p:U0}:cQ step vs=some (i,p)↔Iter step vs i p:=by
 unfold cQ;constructor
 ·(split<;>grind)
 intro h;have hh: ∃r:Nat×U0,Iter step vs r.1 r.2:=⟨(i,p),h⟩;have:=(Classical.choose_spec hh).uniq h;grind
def cC(r:Nat×U0):Val:= .A [.A [.D r.1],.A r.2]
def jg(step:U0->Option (Nat×U0)):HQ->U0->Option U0
 | [],s=>some s
 |i::r,[a,b]=>match step [a,b,.D i]with
  |some (0,s')=>jg step r s'
  |_=>none
 |_::_,_=>none
def Ej(step:U0->Option (Nat×U0))(n:Nat)(s:U0)(D:U0):Prop:=
 jg step (List.range n) s=some [.D D.length,.A D]/\ ∀p:HQ,p.Perm (List.range n)-> ∃D':U0,jg step p s=some [.D D'.length,.A D']/\D'.Perm D
open Classical in
mutual
def W5:VT->Opq->Option (Nat×U0)
 | .X,_=>none
 | .J e a b,I=>if dB I e then W5 a I else W5 b I
 | .N e x,I=>if dB I e then W5 x I else none
 | .W i out,I=>some (i,Y6 I out)
 | .loop hd body ks,I=>match cQ (λvs=>W5 body (I.U hd.v0 vs)) (Y6 I hd.s0)with
   |some r=>if I.f hd.id (Y6 I (hd.s0++hd.fv))=cC r then iP ks r.1 I else none
   |none=>none
 | .both a b,I=>if W5 a I=W5 b I then W5 a I else none
 | .mloop hd l body ks,I=>if∃D,Ej (λvs=>W5 body (I.U hd.v0 vs)) (dL I l).length (Y6 I hd.s0) D/\I.f hd.id (Y6 I (hd.s0++hd.fv))=cC (0,[.D D.length,.A D])then iP ks 0 I else none
def iP:abg->Nat->Opq->Option (Nat×U0)
 | [],_,_=>none
 |k::_,0,I=>W5 k I
 |_::r,n+1,I=>iP r n I
end
def Zh: ∀{a b:qw},QA a b=true->a=b
 | [],[],_=>rfl
 |a::x,b::y,h=>by
  simp only[QA]at h;cases hc:Nat.beq a.toNat b.toNat with
  |false=>grind
  |true=>
   rw[hc]at h;have:a=b:=UInt8.toNat_inj.1 (by simp_all);rw[this,Zh h]
 | [],_::_,h=>by cases h
 |_::_,[],h=>by cases h
def dk0: ∀{a b:Int},NB a b=true->a=b
 | .ofNat a,.ofNat b,h=>by simp_all[NB]
 | .negSucc a,.negSucc b,h=>by simp_all[NB]
 | .ofNat _,.negSucc _,h=>by cases h
 | .negSucc _,.ofNat _,h=>by cases h
mutual
theorem SX.beq_eq: ∀(a b:SX),SX.beq a b=true->a=b
 | .C a,b,h=>by cases b<;>simp[SX.beq]at h;rw[dk0 h]
 | .cs a,b,h=>by cases b<;>simp[SX.beq]at h;rw[Zh h]
 | .cb a,b,h=>by cases b<;>simp[SX.beq]at h;rw[h]
 | .V a,b,h=>by cases b<;>simp[SX.beq]at h;rw[h]
 | .O p a,b,h=>by cases b<;>simp[SX.beq]at h;obtain⟨rfl,h⟩:=h;rw[SX.beqs_eq a _ h]
 | .Q p a,b,h=>by cases b<;>simp[SX.beq]at h;obtain⟨rfl,h⟩:=h;rw[SX.beqs_eq a _ h]
theorem SX.beqs_eq: ∀(a b:Jn),SX.beqs a b=true->a=b
 | [],[],_=>rfl
 | [],_::_,h=>by simp[SX.beqs]at h
 |_::_,[],h=>by simp[SX.beqs]at h
 |a::x,b::y,h=>by simp[SX.beqs,j8]at h;rw[SX.beq_eq a b h.1,SX.beqs_eq x y h.2]
end
mutual
def VR(O:cn)(I:Opq):AV->AS->Prop
 | .bool b,v=>v= .bool b
 | .int k n,v=>v= .int k n
 | .str s,v=>v= .string ⟨s.toArray⟩
 | .nilp,v=>v= .pointer none
 | .ptr b o,v=> ∃L,O b=some L/\v= .pointer (some ⟨L.blk,L.off+o,none⟩)
 | .glob g,v=>v= .pointer (some ⟨g,0,none⟩)
 | .N,v=>v= .slice none 0 0
 | .sl b o len cap,v=> ∃L,O b=some L/\v= .slice (some ⟨L.blk,L.off+o,none⟩) len cap
 | .us b o len sz,v=> ∃L cap,O b=some L/\o+cap*sz=L.ext/\v= .slice (some ⟨L.blk,L.off+o,none⟩) len cap
 | .es b o sz,v=> ∃L a cap,O b=some L/\v= .slice (some a) 0 cap/\(cap=0\/a=⟨L.blk,L.off+o,none⟩/\o+cap*sz=L.ext)
 | .es0,v=> ∃a,v= .slice (some a) 0 0
 | .nilm,v=>v= .map none
 | .map r,v=> ∃L,O r=some L/\v= .map (some L.blk)
 | .nilf,v=>v= .nilFunc
 | .func fn a b,v=>(∀l,fn≠ .yield l)/\ ∃x y,v= .func fn x y/\ct O I a x.toList/\ct O I b y.toList
 | .yield l,v=> ∃L,O l=some L/\v= .func (.yield L.blk) #[] #[]
 | .nili,v=>v= .nilIface
 | .iface t x,v=> ∃y,v= .iface t y/\VR O I x y
 | .agg cs,v=> ∃xs,v= .agg xs/\ct O I cs xs.toList
 | .V cs,v=> ∃xs,v= .tuple xs/\ct O I cs xs.toList
 | .opq n,v=>v=I.v n
 | .Z k e,v=>v= .int k (dI I e)
 | .K e,v=>v= .string ⟨(dS I e).toArray⟩
 | .H e,v=>v= .bool (dB I e)
 | .S b off len sz,v=>(∃L cap a,O b=some L/\v= .slice (some a) (dI I len).toNat cap/\(dI I len).toNat<=cap/\(0<dI I len->a=⟨L.blk,L.off+(dI I off).toNat*sz,none⟩))\/ ∃a cap,v= .slice a 0 cap/\(a=none->cap=0)/\dI I len=0
 | .optr b idx j sz,v=> ∃L,O b=some L/\v= .pointer (some ⟨L.blk,L.off+(dI I idx).toNat*sz+j,none⟩)
 | .U b len sz,v=>(∃L cap,O b=some L/\cap*sz=L.ext/\v= .slice (some ⟨L.blk,L.off,none⟩) (dI I len).toNat cap/\(dI I len).toNat<=cap)\/v= .slice none 0 0/\dI I len=0
 | .atl n,v=> ∃m:Int,v= .int .i64 m/\(n:Int)<=m
 | .any,_=>True
def ct(O:cn)(I:Opq):Fz->List AS->Prop
 | [],vs=>vs=[]
 |a::r,vs=> ∃v vr,vs=v::vr/\VR O I a v/\ct O I r vr
end
def Le(O ac:cn):Prop:= ∀b L,O b=some L->ac b=some L
def Le.refl(O:cn):Le O O:=λ_ _ h=>h
def Le.trans{a b c:cn}(h:Le a b)(k:Le b c):Le a c:=λx L e=>k x L (h x L e)
mutual
theorem VR.mono{O ac:cn}{I:Opq}(hl:Le O ac): ∀(a:AV) (v:AS),VR O I a v->VR ac I a v
 | .bool b,v,h=>h
 | .int k n,v,h=>h
 | .str s,v,h=>h
 | .nilp,v,h=>h
 | .ptr b o,v,h=>let ⟨L,e,x⟩:=h;⟨L,hl _ _ e,x⟩
 | .glob g,v,h=>h
 | .N,v,h=>h
 | .sl b o len cap,v,h=>let ⟨L,e,x⟩:=h;⟨L,hl _ _ e,x⟩
 | .us b o len sz,v,h=>let ⟨L,c,e,x⟩:=h;⟨L,c,hl _ _ e,x⟩
 | .es b o sz,v,h=>let ⟨L,a,c,e,x⟩:=h;⟨L,a,c,hl _ _ e,x⟩
 | .es0,v,h=>h
 | .nilm,v,h=>h
 | .map r,v,h=>let ⟨L,e,x⟩:=h;⟨L,hl _ _ e,x⟩
 | .nilf,v,h=>h
 | .func fn a b,v,h=>let ⟨n,x,y,e,p,q⟩:=h;⟨n,x,y,e,ct.mono hl a _ p,ct.mono hl b _ q⟩
 | .yield l,v,h=>let ⟨L,e,x⟩:=h;⟨L,hl _ _ e,x⟩
 | .nili,v,h=>h
 | .iface t x,v,h=>let ⟨y,e,p⟩:=h;⟨y,e,VR.mono hl x y p⟩
 | .agg cs,v,h=>let ⟨xs,e,p⟩:=h;⟨xs,e,ct.mono hl cs _ p⟩
 | .V cs,v,h=>let ⟨xs,e,p⟩:=h;⟨xs,e,ct.mono hl cs _ p⟩
 | .opq n,v,h=>h
 | .Z k n,v,h=>h
 | .K n,v,h=>h
 | .H e,v,h=>h
 | .S b off len sz,v,h=>ER (λ⟨L,c,a,e,x⟩=>⟨L,c,a,hl _ _ e,x⟩) id h
 | .optr b idx j sz,v,h=>let ⟨L,e,x⟩:=h;⟨L,hl _ _ e,x⟩
 | .U b len sz,v,h=>ER (λ⟨L,c,e,x⟩=>⟨L,c,hl _ _ e,x⟩) id h
 | .atl n,v,h=>h
 | .any,v,h=>h
theorem ct.mono{O ac:cn}{I:Opq}(hl:Le O ac): ∀(a:Fz) (v:List AS),ct O I a v->ct ac I a v
 | [],vs,h=>h
 |a::r,vs,h=>let ⟨v,vr,e,p,q⟩:=h;⟨v,vr,e,VR.mono hl a v p,ct.mono hl r vr q⟩
end
def ct.length{O:cn}{I:Opq}: ∀{a:Fz} {v:List AS},ct O I a v->v.length=a.length
 | [],_,h=>by rw[h];rfl
 |_::r,_,⟨v,vr,e,_,q⟩=>by rw[e];simp[ct.length q]
def ct.cons{O:cn}{I:Opq}{a:AV}{r:Fz}{v:AS}{vr:List AS}(h:VR O I a v)(k:ct O I r vr):ct O I (a::r) (v::vr):=⟨v,vr,rfl,h,k⟩
def ct.nil{O:cn}{I:Opq}:ct O I [] []:=rfl
theorem ct.one{O:cn}{I:Opq}{a:AV}{v:AS}(h:VR O I a v):ct O I [a] [v]:= .cons h .nil
def ct.append{O:cn}{I:Opq}: ∀{a b:Fz} {v u:List AS},ct O I a v->ct O I b u->ct O I (a++b) (v++u)
 | [],_,_,_,h,k=>by rw[h];exact k
 |_::_,_,_,_,⟨v,vr,e,p,q⟩,k=>by rw[e];exact .cons p (ct.append q k)
def ct.drop{O:cn}{I:Opq}: ∀(n:Nat) {a:Fz} {v:List AS},ct O I a v->ct O I (a.drop n) (v.drop n)
 |0,_,_,h=>h
 |n+1,[],_,h=>by rw[h];exact .nil
 |n+1,_::_,_,⟨v,vr,e,p,q⟩=>by rw[e];exact ct.drop n q
def ct.take{O:cn}{I:Opq}: ∀(n:Nat) {a:Fz} {v:List AS},ct O I a v->ct O I (a.take n) (v.take n)
 |0,_,_,h=>by exact .nil
 |n+1,[],_,h=>by rw[h];exact .nil
 |n+1,_::_,_,⟨v,vr,e,p,q⟩=>by rw[e];exact .cons p (ct.take n q)
theorem ct.get{O:cn}{I:Opq}: ∀{a:Fz} {v:List AS} (i:Nat) (x:AV),ct O I a v->a[i]? =some x-> ∃y,v[i]? =some y/\VR O I x y
 | [],_,i,x,h,e=>by simp at e
 |a::r,_,0,x,⟨v,vr,e',p,q⟩,e=>by(intros;simp_all)
 |a::r,_,i+1,x,⟨v,vr,e',p,q⟩,e=>by
  obtain⟨y,hy,z⟩:=ct.get i x q e
  (intros;simp_all)
theorem VR.one{O:cn}{I:Opq}{a:AV}{v:AS}(h:VR O I a v)(ho:a.one=true):v.oneCell'=true:=by
 cases a<;>simp only[VR,AV.one]at h ho<;>first
  |(rcases h with⟨L,c,a,_,rfl,_⟩|⟨rfl,_⟩<;>rfl)
  |(rcases h with⟨L,c,a,_,rfl,_⟩|⟨a,c,rfl,_⟩<;>rfl)
  |(rcases h with⟨L,c,_,_,rfl,_⟩|⟨rfl,_⟩<;>rfl)
  |(subst h;rfl)
  |(obtain⟨L,_,rfl⟩:=h;rfl)
  |(obtain⟨L,c,_,_,rfl⟩:=h;rfl)
  |(obtain⟨L,a,c,_,rfl,_⟩:=h;rfl)
  |(obtain⟨a,rfl⟩:=h;rfl)
  |(obtain⟨m,rfl,_⟩:=h;rfl)
  |(obtain⟨_,x,y,rfl,_⟩:=h;rfl)
  |(obtain⟨y,rfl,_⟩:=h;rfl)
  |(subst h;exact I.one _)
  |simp at ho
def AV.one_A{a:AV}(h:a.one=true):a.oneA=true:=by cases a<;>first|rfl|cases h
theorem sQ{l:Fz}(h:l.all AV.one=true):l.all AV.oneA=true:=k9.2 λx hx=>AV.one_A (k9.1 h x hx)
theorem VR.cells{O:cn}{I:Opq}{a:AV}{v:AS}(h:VR O I a v)(ht:a.nt=true):ct O I a.cells v.cells.toList:=by
 cases a with
 |agg cs=>obtain⟨xs,rfl,p⟩:=h;exact p
 |V vs=>cases ht
 |any=>cases ht
 |func fn x y=>obtain⟨n,a,b,rfl,p,q⟩:=h;exact .one ⟨n,a,b,rfl,p,q⟩
 |iface t x=>obtain⟨y,rfl,p⟩:=h;exact .one ⟨y,rfl,p⟩
 |opq n=>
  have h1:=VR.one h rfl;have:v.cells= #[v]:=by cases v<;>first|rfl|grind[Value.oneCell']
  rw[this];exact .one h
 |_=>
  have h1:=VR.one h rfl;have:v.cells= #[v]:=by cases v<;>first|rfl|grind[Value.oneCell']
  rw[this];exact .one h
def bx1{O:cn}{I:Opq}{v:AS}{a:AV}(h:Bb v=some a):VR O I a v:=by
 unfold Bb at h;split at h<;>first
  |(grind[Option.some.injEq,VR])
  |simp at h
def cb5{v:AS}{a:AV}(h:Bb v=some a):a.one=true:=by
 unfold Bb at h;split at h<;>first
  |(simp only[j0]at h;subst h;rfl)
  |simp at h
def be2{O:cn}{I:Opq}: ∀{l:List AS} {cs:Fz},l.mapM Bb=some cs->ct O I cs l
 | [],cs,h=>by simp at h;subst h;rfl
 |v::r,cs,h=>by simp[N1,Option.bind_eq_bind,s7,Option.pure_def,j0]at h;obtain⟨a,ha,b,hb,rfl⟩:=h;exact .cons (bx1 ha) (be2 hb)
def xm{O:cn}{I:Opq}{v:AS}{a:AV}(h:Bt v=some a):VR O I a v:=by unfold Bt at h;split at h;simp at h;obtain⟨cs,hc,rfl⟩:=h;exact⟨_,rfl,be2 hc⟩;split at h;rename_i vs l e;simp at h;subst h;exact⟨vs,rfl,e⟩;cases h;exact bx1 h
inductive ERs (O:cn) (I:Opq):aaO->aaE->Prop where
 |nil:ERs O I [] []
 |cons {e:Ent} {r:aaO} {k v:AS} {m:aaE}:VR O I e.key k->VR O I e.val v->ERs O I r m->ERs O I (e::r) (⟨k,v,e.born⟩::m)
def ERs.mono{O ac:cn}{I:Opq}(hl:Le O ac){a:aaO}{m:aaE}(h:ERs O I a m):ERs ac I a m:=by
 induction h with
 |nil=>exact .nil
 |cons p q _ ih=>exact .cons (VR.mono hl _ _ p) (VR.mono hl _ _ q) ih
def ERs.length{O:cn}{I:Opq}{a:aaO}{m:aaE}(h:ERs O I a m):m.length=a.length:=by
 induction h with
 |nil=>rfl
 |cons _ _ _ ih=>simp[ih]
def TR(O:cn)(I:Opq)(t:TF)(nt:Nat)(tmps:Array AS):Prop:=tmps.size=nt/\nt<=256/\ ∀n,VR O I (t.get n) (tmps.getD n Go.undef)
def TR.mono{O ac:cn}{I:Opq}(hl:Le O ac){t:TF}{nt:Nat}{tmps:Array AS}(h:TR O I t nt tmps):TR ac I t nt tmps:=
 ⟨h.1,h.2.1,λn=>VR.mono hl _ _ (h.2.2 n)⟩
def IR(O:cn):Bj->Bj->Prop
 |none,m=>m=none
 |some r,m=> ∃L,O r=some L/\m=some L.blk
def IR.mono{O ac:cn}(hl:Le O ac){a b:Bj}(h:IR O a b):IR ac a b:=by
 cases a with
 |none=>exact h
 |some r=>obtain⟨L,e,x⟩:=h;exact⟨L,hl _ _ e,x⟩
def ig(c:CT)(x:Val):AS:=match c with
 | .int k=> .int k x.I
 | .str=> .string ⟨x.S.toArray⟩
 | .bool=> .bool x.Z
def dV(sig:zd)(r:Val):List AS:=(List.range sig.length).map λj=>ig (sig.getD j .bool) (r.L.getD j default)
def cN(sig:zd)(l:U0):List AS:=l.flatMap (dV sig)
def lq:List AS->AS
 | [v]=>v
 |vs=> .agg vs.toArray
def qS(ks vs:zd)(r:Val):AS×AS:=(lq ((dV (ks++vs) r).take ks.length),lq ((dV (ks++vs) r).drop ks.length))
def gO(d:Bool)(E:aaE)(c:Nat):Prop:=(E.map (·.born)).Pairwise (· < ·)/\(∀e∈E,e.born<c)/\(d=true->E.map (·.born)=List.range c)
def gO.nil(c:Nat):gO (Nat.beq c 0) [] c:=by (constructor<;>simp_all)
def gO.weak{d d':Bool}{E:aaE}{c:Nat}(h:gO d' E c)(hd:(!d||d')=true):gO d E c:=⟨h.1,h.2.1,λe=>h.2.2 (by grind)⟩
def BR(O:cn)(I:Opq)(L:Loc)(o:aaV):Blk->Prop
 | .cells e fz cs=> ∃C lo hi vs,o=some (.cells C e (lo,hi))/\L.off+L.ext<=C.size/\cs.length<=L.ext/\cs.all AV.oneA=true/\ct O I cs vs/\
  (∀i,i<cs.length->C[L.off+i]? =vs[i]?)/\(∀i,fz<=i->i<L.ext-> ¬(lo<=L.off+i/\L.off+i<hi))/\(I.fix e=true->L.off=0)
 | .A e sig l=> ∃C e' lo hi,o=some (.cells C e' (lo,hi))/\(e'=e\/e=jP)/\L.off+L.ext<=C.size/\(dL I l).length*sig.length<=L.ext/\
  (∀i v,(cN sig (dL I l))[i]? =some v->C[L.off+i]? =some v)/\(∀i,i<L.ext-> ¬(lo<=L.off+i/\L.off+i<hi))
 | .map es c=> ∃E,o=some (.map E c)/\ERs O I es E.toList
 | .marr d ks vs l=> ∃E c,o=some (.map E c)/\(E.toList.map λe=>(e.key,e.val))=(dL I l).map (qS ks vs)/\gO d E.toList c
 | .bag e sig l=> ∃D:U0,D.Perm (dL I l)/\ ∃C e' lo hi,o=some (.cells C e' (lo,hi))/\(e'=e\/e=jP)/\L.off+L.ext<=C.size/\D.length*sig.length<=L.ext/\
  (∀i v,(cN sig D)[i]? =some v->C[L.off+i]? =some v)/\(∀i,i<L.ext-> ¬(lo<=L.off+i/\L.off+i<hi))
 | .mrg it d ks vs l=> ∃E c Li,o=some (.map E c)/\O it=some Li/\Li.ext=c/\(E.toList.map λe=>(e.key,e.val))=(dL I l).map (qS ks vs)/\gO d E.toList c
 | .vec cs=> ∃C e lo hi vs,o=some (.cells C e (lo,hi))/\ct O I cs vs/\ ∀i,i<cs.length->C[L.off+i]? =vs[i]?
 | .mit m=>L.off=0/\ ∃Lm,O m=some Lm/\o=some (.mapIter (some Lm.blk) L.ext #[] L.ext)
 | .strIter s pos=>L.off=0/\o=some (.stringIter ⟨s.toArray⟩ pos)
 | .mapIter m since seen last=>L.off=0/\ ∃m',o=some (.mapIter m' since seen.toArray last)/\IR O m m'
 | .loop st pend fn tm nt ps as body d=> ∃tmps f' Ld,o=some (.loop {state:=st,pending:=pend,fn:=f',tmps:=tmps,params:=ps,assign:=as,body:=body,defers:=Ld.blk})/\O d=some Ld/\TR O I tm nt tmps
 | .defd taken=>o=some (.deferred (if taken then none else some []))
def BR.mono{O ac:cn}{I:Opq}(hl:Le O ac){L:Loc}{o:aaV}{x:Blk}(h:BR O I L o x):BR ac I L o x:=by
 cases x with
 |cells e fz cs=>obtain⟨C,lo,hi,vs,h1,h2,h3,h4,h5,h6⟩:=h;exact⟨C,lo,hi,vs,h1,h2,h3,h4,ct.mono hl _ _ h5,h6⟩
 |A e sig l=>exact h
 |map es c=>obtain⟨E,h1,h2⟩:=h;exact⟨E,h1,h2.mono hl⟩
 |marr d ks vs l=>exact h
 |bag e sig l=>exact h
 |mrg it d ks vs l=>obtain⟨E,c,Li,h1,h2,h3⟩:=h;exact⟨E,c,Li,h1,hl _ _ h2,h3⟩
 |mit m=>obtain⟨h0,Lm,h1,h2⟩:=h;exact⟨h0,Lm,hl _ _ h1,h2⟩
 |vec cs=>obtain⟨C,e,lo,hi,vs,h1,h2,h3⟩:=h;exact⟨C,e,lo,hi,vs,h1,ct.mono hl _ _ h2,h3⟩
 |strIter s pos=>exact h
 |mapIter m since seen last=>obtain⟨h0,m',h1,h2⟩:=h;exact⟨h0,m',h1,h2.mono hl⟩
 |loop st pend fn tm nt ps as body d=>obtain⟨tmps,f',Ld,h1,h2,h3⟩:=h;exact⟨tmps,f',Ld,h1,hl _ _ h2,h3.mono hl⟩
 |defd t=>exact h
def Blk.isArr:Blk->Bool
 | .A _ _ _=>true
 | .bag _ _ _=>true
 | .vec _=>true
 |_=>false
structure HR (O:cn) (I:Opq) (K:zI) (w0:yM) (h:Heap) (w:yM):Prop where
 blk: ∀b x L,h.get b=some x->O b=some L->BR O I L w.heap[L.blk]? x
 sep: ∀b b' x x' L L',h.get b=some x->h.get b'=some x'->O b=some L->O b'=some L'->b≠b'->h.wm<=b\/h.wm<=b'\/x.isArr=false\/x'.isArr=false->L.blk≠L'.blk
 fresh: ∀b,h.next<=b->O b=none
 fget: ∀b,h.next<=b->h.get b=none
 lt: ∀b L,O b=some L->L.blk<w.heap.size
 kin: ∀i,K i->i<w0.heap.size
 keep: ∀i,K i->w.heap[i]? =w0.heap[i]?
 free: ∀b x L,h.get b=some x->h.wm<=b->O b=some L-> ¬K L.blk
 size:w0.heap.size<=w.heap.size
 os:w.os=w0.os
 tape:w.tape=w0.tape
 out:w.output=w0.output
 dr:w0.drawn<=w.drawn
inductive RowB:sP->Prop where
 |A (e:Bg) (sig:zd) (l:SX):RowB (some (.A e sig l))
 |bag (e:Bg) (sig:zd) (l:SX):RowB (some (.bag e sig l))
theorem RowB.of{x:sP}{e:Bg}{sig:zd}{l:SX}(h:x=some (.A e sig l)):RowB x:=h▸ .A e sig l
structure St (h:Heap) (O:cn) (h':Heap) (ac:cn):Prop where
 le:h.next<=h'.next
 ext: ∀b,b<h.next->ac b=O b
 unm: ∀b,b<h.next->O b=none->h'.get b=h.get b\/h'.get b=none\/RowB (h.get b)
 wm:h'.wm=h.wm
def St.refl(h:Heap)(O:cn):St h O h O:=⟨j5 _,λ_ _=>rfl,λ_ _ _=> .inl rfl,rfl⟩
def St.trans{h h' h'':Heap}{O ac am:cn}(s:St h O h' ac)(t:St h' ac h'' am):St h O h'' am:=
 ⟨l7 s.le t.le,λb hb=>(t.ext b (A1 hb s.le)).trans (s.ext b hb),
  λb hb hn=>by
   rcases t.unm b (A1 hb s.le) ((s.ext b hb).trans hn)with h1|h1|h1
   .rcases s.unm b hb hn with h2|h2|h2
    ·(intros;simp_all)
    ·(intros;simp_all)
    grind
   grind
   .rcases s.unm b hb hn with h2|h2|h2
    ·(intros;simp_all)
    rw[h2]at h1;cases h1
    grind,t.wm.trans s.wm⟩
def St.Le{O:cn}{I:Opq}{K:zI}{w0 w:yM}{h h':Heap}{ac:cn}(s:St h O h' ac)(r:HR O I K w0 h w):Le O ac:=by
 intro b L e;rw[s.ext b];exact e
 .rcases k8 b h.next with hb|hb
  .exact hb
  rw[r.fresh b hb]at e;cases e
def HR.drew{O:cn}{I:Opq}{K:zI}{w0 w:yM}{h:Heap}(r:HR O I K w0 h w):HR O I K w0 h w.drew:=
 ⟨r.blk,r.sep,r.fresh,r.fget,r.lt,r.kin,r.keep,r.free,r.size,r.os,r.tape,r.out,N2 r.dr⟩
def cn.add(O:cn)(n:Nat)(L:Loc):cn:=λb=>if b=n then some L else O b
def HR.new{O:cn}{I:Opq}{K:zI}{w0 w:yM}{h:Heap}(r:HR O I K w0 h w)(o:Obj)(x:Blk)(off ext:Nat)
 (hx:BR (O.add h.next ⟨w.heap.size,off,ext⟩) I ⟨w.heap.size,off,ext⟩ (some o) x):
 HR (O.add h.next ⟨w.heap.size,off,ext⟩) I K w0 (h.new x) (w.alloc o)/\St h O (h.new x) (O.add h.next ⟨w.heap.size,off,ext⟩):=by
 have hst:St h O (h.new x) (O.add h.next ⟨w.heap.size,off,ext⟩):=by refine⟨by simp,λb hb=> ?_,λb hb _=> ?_,rfl⟩;simp only[cn.add];grind;left;rw[Heap.get_new,b9 (by omega)]
 have hle:=hst.Le r;have hold: ∀i,i<w.heap.size->(w.alloc o).heap[i]? =w.heap[i]? :=λi hi=>RowKit.Below.heap_alloc _ _ _ hi
 have kX:(w.alloc o).heap[w.heap.size]? =some o:=by show(w.heap.push o)[w.heap.size]? =_;simp
 refine⟨⟨?_,?_,?_,?_,?_,r.kin,?_,?_,?_,r.os,r.tape,r.out,r.dr⟩,hst⟩
 .intro b y L hg hb;rw[Heap.get_new]at hg;by_cases e:b=h.next
  .subst e;rw[c9 rfl]at hg;split at hg;simp only[j0]at hg;subst hg;simp only[cn.add,if_true,j0]at hb;(intros;grind);grind
  rw[b9 e]at hg;simp only[cn.add,b9 e]at hb;rw[hold _ (r.lt b L hb)];exact(r.blk b y L hg hb).mono hle
 .intro b b' y y' L L' hg hg' hb hb' hne hw;rw[Heap.get_new]at hg hg';by_cases e:b=h.next
  .by_cases e':b'=h.next
   .omega
   subst e;simp only[cn.add,if_true,j0]at hb;subst hb;simp only[cn.add,b9 e']at hb';exact Nat.ne_of_gt (r.lt b' L' hb')
  .simp only[cn.add,b9 e]at hb;rw[b9 e]at hg;by_cases e':b'=h.next
   .subst e';simp only[cn.add,if_true,j0]at hb';subst hb';exact Q2 (r.lt b L hb)
   simp only[cn.add,b9 e']at hb';rw[b9 e']at hg';exact r.sep b b' y y' L L' hg hg' hb hb' hne hw
 intro b hb;simp only[Heap.next_new]at hb;simp only[cn.add];rw[b9 (by omega)];exact r.fresh b (by omega);intro b hb;simp only[Heap.next_new]at hb;rw[Heap.get_new,b9 (by omega)];exact r.fget b (by omega);intro b L hb;rw[World.size_alloc];simp only[cn.add]at hb;split at hb;grind;exact Nat.lt_succ_of_lt (r.lt b L hb);intro i hi;rw[hold i (A1 (r.kin i hi) r.size)];exact r.keep i hi
 .intro b y L hg hw hb;rw[Heap.get_new]at hg;by_cases e:b=h.next
  .subst e;simp only[cn.add,if_true,j0]at hb;subst hb;intro hk;exact absurd (r.kin _ hk) (E4.2 r.size)
  rw[b9 e]at hg;simp only[cn.add,b9 e]at hb;exact r.free b y L hg hw hb
 rw[World.size_alloc];exact N2 r.size
def HR.U{O:cn}{I:Opq}{K:zI}{w0 w w':yM}{h:Heap}(r:HR O I K w0 h w)(b:Nat)(x0 x:Blk)(L:Loc)
 (hg:h.get b=some x0) (hb:O b=some L) (hwm:h.wm<=b)
 (hother: ∀i,i≠L.blk->w'.heap[i]? =w.heap[i]?) (hsz:w'.heap.size=w.heap.size) (hos:w'.os=w.os) (htp:w'.tape=w.tape) (hout:w'.output=w.output) (hdr:w'.drawn=w.drawn)
 (hx:BR O I L w'.heap[L.blk]? x):HR O I K w0 (h.put b (some x)) w'/\St h O (h.put b (some x)) O:=by
 refine⟨⟨?_,?_,r.fresh,?_,?_,r.kin,?_,?_,?_,hos.trans r.os,htp.trans r.tape,hout.trans r.out,by rw[hdr];exact r.dr⟩,⟨j5 _,λ_ _=>rfl,?_,rfl⟩⟩;intro b' y L' hg' hb';rw[Heap.get_put]at hg';by_cases e:b'=b;grind;rw[b9 e]at hg';rw[hother _ (r.sep b' b y x0 L' L hg' hg hb' hb e (.inr (.inl hwm)))];exact r.blk b' y L' hg' hb';intro b1 b2 y y' L1 L2 h1 h2 h3 h4 hne hw;rw[Heap.get_put]at h1 h2;by_cases e1:b1=b;subst e1;rw[b9 (Ne.symm hne)]at h2;exact r.sep b1 b2 x0 y' L1 L2 hg h2 h3 h4 hne (.inl hwm);rw[b9 e1]at h1;by_cases e2:b2=b;subst e2;exact r.sep b1 b2 y x0 L1 L2 h1 hg h3 h4 hne (.inr (.inl hwm));rw[b9 e2]at h2;exact r.sep b1 b2 y y' L1 L2 h1 h2 h3 h4 hne hw;intro b' hb';rw[Heap.get_put];by_cases e:b'=b;subst e;rw[r.fget b' hb']at hg;cases hg;rw[b9 e];exact r.fget b' hb';intro b' L' hb';rw[hsz];exact r.lt b' L' hb';intro i hi;rw[hother i (λe=>r.free b x0 L hg hwm hb (e▸hi))];exact r.keep i hi;intro b' y L' hg' hw' hb';rw[Heap.get_put]at hg';by_cases e:b'=b;subst e;exact r.free b' x0 L' hg hw' hb';rw[b9 e]at hg';exact r.free b' y L' hg' hw' hb';rw[hsz];exact r.size;intro b' _ hn;left;rw[Heap.get_put,b9];grind
def HR.drop{O:cn}{I:Opq}{K:zI}{w0 w:yM}{h:Heap}(r:HR O I K w0 h w)(b:Nat):
 HR O I K w0 (h.put b none) w/\St h O (h.put b none) O:=by
 have hg: ∀b' y,(h.put b none).get b'=some y->b'≠b/\h.get b'=some y:=by
  intro b' y hg;rw[Heap.get_put]at hg
  (intros;simp_all)
 refine⟨⟨λb' y L' h1=>r.blk b' y L' (hg _ _ h1).2,λb1 b2 y y' L1 L2 h1 h2=>r.sep b1 b2 y y' L1 L2 (hg _ _ h1).2 (hg _ _ h2).2,r.fresh,?_,r.lt,r.kin,r.keep,
  λb' y L' h1=>r.free b' y L' (hg _ _ h1).2,r.size,r.os,r.tape,r.out,r.dr⟩,⟨j5 _,λ_ _=>rfl,?_,rfl⟩⟩
 intro b' hb';rw[Heap.get_put];split;split<;>rfl;exact r.fget b' hb';intro b' _ _;rw[Heap.get_put]
 (split<;>simp_all)
def HR.kill{O:cn}{I:Opq}{K:zI}{w0 w:yM}{h:Heap}(r:HR O I K w0 h w)(b:Nat)(L:Loc)(hb:O b=some L):
 HR O I K w0 (h.put b none) w/\St h O (h.put b none) O:=r.drop b
def HR.retell{O:cn}{I:Opq}{K:zI}{w0 w:yM}{h:Heap}{b:Nat}{x y:Blk}(r:HR O I K w0 h w)(hg:h.get b=some x)(hk:h.wm<=b\/x.isArr=false)(hbr: ∀L,O b=some L->BR O I L w.heap[L.blk]? x->BR O I L w.heap[L.blk]? y){h2:Heap}(h2n:h2.next=h.next)(h2w:h2.wm=h.wm)
 (h2g: ∀z,h2.get z=if z=b then some y else h.get z):HR O I K w0 h2 w:=by
 have key: ∀z u,h2.get z=some u-> ∃v,h.get z=some v/\(∀L,O z=some L->BR O I L w.heap[L.blk]? v->BR O I L w.heap[L.blk]? u)/\(h.wm<=z\/v.isArr=false\/v=u):=by grind
 refine⟨λx y L hy hL=> ?_,λx x' y y' L L' hy hy' hL hL' hne hw=> ?_,λx hx=>r.fresh x (by omega),λx hx=> ?_,r.lt,r.kin,r.keep,λx y L hy hw hL=> ?_,r.size,r.os,r.tape,r.out,r.dr⟩;obtain⟨z,z1,z2,_⟩:=key x y hy;exact z2 L hL (r.blk x z L z1 hL);obtain⟨z,z1,_,z3⟩:=key x y hy;obtain⟨z',z1',_,z3'⟩:=key x' y' hy';refine r.sep x x' z z' L L' z1 z1' hL hL' hne ?_;grind;have:=r.fget x (by(intros;grind));grind;obtain⟨z,z1,_⟩:=key x y hy;exact r.free x z L z1 (by omega) hL
