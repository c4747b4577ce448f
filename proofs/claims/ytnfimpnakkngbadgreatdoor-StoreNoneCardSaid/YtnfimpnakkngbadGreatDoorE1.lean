/- The evaluator: abstract values, blocks, the heap; what one operation does. Program-independent definitions. -/
import GoSem.Step
set_option linter.unusedVariables false
namespace Go.Ev
open Go
noncomputable section

/-! Sixteen-fold rows. -/
structure P16 (α : Type) where
  f0 : α
  f1 : α
  f2 : α
  f3 : α
  f4 : α
  f5 : α
  f6 : α
  f7 : α
  f8 : α
  f9 : α
  f10 : α
  f11 : α
  f12 : α
  f13 : α
  f14 : α
  f15 : α
structure Dg where
  g : (α : Type) → P16 α → α
  s : (α : Type) → α → P16 α → P16 α
def dg0 : Dg := ⟨fun _ t => t.f0, fun _ x t => ⟨x, t.f1, t.f2, t.f3, t.f4, t.f5, t.f6, t.f7, t.f8, t.f9, t.f10, t.f11, t.f12, t.f13, t.f14, t.f15⟩⟩
def dg1 : Dg := ⟨fun _ t => t.f1, fun _ x t => ⟨t.f0, x, t.f2, t.f3, t.f4, t.f5, t.f6, t.f7, t.f8, t.f9, t.f10, t.f11, t.f12, t.f13, t.f14, t.f15⟩⟩
def dg2 : Dg := ⟨fun _ t => t.f2, fun _ x t => ⟨t.f0, t.f1, x, t.f3, t.f4, t.f5, t.f6, t.f7, t.f8, t.f9, t.f10, t.f11, t.f12, t.f13, t.f14, t.f15⟩⟩
def dg3 : Dg := ⟨fun _ t => t.f3, fun _ x t => ⟨t.f0, t.f1, t.f2, x, t.f4, t.f5, t.f6, t.f7, t.f8, t.f9, t.f10, t.f11, t.f12, t.f13, t.f14, t.f15⟩⟩
def dg4 : Dg := ⟨fun _ t => t.f4, fun _ x t => ⟨t.f0, t.f1, t.f2, t.f3, x, t.f5, t.f6, t.f7, t.f8, t.f9, t.f10, t.f11, t.f12, t.f13, t.f14, t.f15⟩⟩
def dg5 : Dg := ⟨fun _ t => t.f5, fun _ x t => ⟨t.f0, t.f1, t.f2, t.f3, t.f4, x, t.f6, t.f7, t.f8, t.f9, t.f10, t.f11, t.f12, t.f13, t.f14, t.f15⟩⟩
def dg6 : Dg := ⟨fun _ t => t.f6, fun _ x t => ⟨t.f0, t.f1, t.f2, t.f3, t.f4, t.f5, x, t.f7, t.f8, t.f9, t.f10, t.f11, t.f12, t.f13, t.f14, t.f15⟩⟩
def dg7 : Dg := ⟨fun _ t => t.f7, fun _ x t => ⟨t.f0, t.f1, t.f2, t.f3, t.f4, t.f5, t.f6, x, t.f8, t.f9, t.f10, t.f11, t.f12, t.f13, t.f14, t.f15⟩⟩
def dg8 : Dg := ⟨fun _ t => t.f8, fun _ x t => ⟨t.f0, t.f1, t.f2, t.f3, t.f4, t.f5, t.f6, t.f7, x, t.f9, t.f10, t.f11, t.f12, t.f13, t.f14, t.f15⟩⟩
def dg9 : Dg := ⟨fun _ t => t.f9, fun _ x t => ⟨t.f0, t.f1, t.f2, t.f3, t.f4, t.f5, t.f6, t.f7, t.f8, x, t.f10, t.f11, t.f12, t.f13, t.f14, t.f15⟩⟩
def dg10 : Dg := ⟨fun _ t => t.f10, fun _ x t => ⟨t.f0, t.f1, t.f2, t.f3, t.f4, t.f5, t.f6, t.f7, t.f8, t.f9, x, t.f11, t.f12, t.f13, t.f14, t.f15⟩⟩
def dg11 : Dg := ⟨fun _ t => t.f11, fun _ x t => ⟨t.f0, t.f1, t.f2, t.f3, t.f4, t.f5, t.f6, t.f7, t.f8, t.f9, t.f10, x, t.f12, t.f13, t.f14, t.f15⟩⟩
def dg12 : Dg := ⟨fun _ t => t.f12, fun _ x t => ⟨t.f0, t.f1, t.f2, t.f3, t.f4, t.f5, t.f6, t.f7, t.f8, t.f9, t.f10, t.f11, x, t.f13, t.f14, t.f15⟩⟩
def dg13 : Dg := ⟨fun _ t => t.f13, fun _ x t => ⟨t.f0, t.f1, t.f2, t.f3, t.f4, t.f5, t.f6, t.f7, t.f8, t.f9, t.f10, t.f11, t.f12, x, t.f14, t.f15⟩⟩
def dg14 : Dg := ⟨fun _ t => t.f14, fun _ x t => ⟨t.f0, t.f1, t.f2, t.f3, t.f4, t.f5, t.f6, t.f7, t.f8, t.f9, t.f10, t.f11, t.f12, t.f13, x, t.f15⟩⟩
def dg15 : Dg := ⟨fun _ t => t.f15, fun _ x t => ⟨t.f0, t.f1, t.f2, t.f3, t.f4, t.f5, t.f6, t.f7, t.f8, t.f9, t.f10, t.f11, t.f12, t.f13, t.f14, x⟩⟩
def dgOf (n : Nat) : Dg := bif Nat.ble 8 n then (bif Nat.ble 12 n then (bif Nat.ble 14 n then (bif Nat.ble 15 n then dg15 else dg14) else (bif Nat.ble 13 n then dg13 else dg12)) else (bif Nat.ble 10 n then (bif Nat.ble 11 n then dg11 else dg10) else (bif Nat.ble 9 n then dg9 else dg8))) else (bif Nat.ble 4 n then (bif Nat.ble 6 n then (bif Nat.ble 7 n then dg7 else dg6) else (bif Nat.ble 5 n then dg5 else dg4)) else (bif Nat.ble 2 n then (bif Nat.ble 3 n then dg3 else dg2) else (bif Nat.ble 1 n then dg1 else dg0)))
def P16.const {α : Type} (x : α) : P16 α := ⟨x, x, x, x, x, x, x, x, x, x, x, x, x, x, x, x⟩
/-! Symbols: closed expressions that name values which hang on the input. -/
inductive Val where
  | vi (n : Int)
  | vs (l : List UInt8)
  | vb (x : Bool)
  | vl (r : List Val)
  deriving Inhabited
def Val.toI : Val → Int
  | .vi n => n
  | _ => 0
def Val.toS : Val → List UInt8
  | .vs l => l
  | _ => []
def Val.toB : Val → Bool
  | .vb x => x
  | _ => false
def Val.toL : Val → List Val
  | .vl r => r
  | _ => []
inductive Prim where
  | ar (op : BinOp) (k : IntKind)
  | cmp (op : BinOp)
  | scmp (op : BinOp)
  | cat
  | not
  | and
  | or
  | beq
  | ite
  | un (op : UnOp) (k : IntKind)
  | conv (k : IntKind)
  | slen
  | sat
  | ssub
  | llen
  | lget
  | lset
  | lcat
  | lsub
  | row
  | imin
  | imax
  | iadd
  | isub
  deriving DecidableEq
inductive SX where
  | ci (n : Int)
  | cs (l : List UInt8)
  | cb (x : Bool)
  | va (n : Nat)
  | op (p : Prim) (l : List SX)
  | app (f : Nat) (l : List SX)
  deriving Inhabited
/-- A column of a row's cells. -/
inductive CT where
  | int (k : IntKind)
  | str
  | bool
  deriving DecidableEq
inductive AV where
  | bool (b : Bool)
  | int (k : IntKind) (n : Int)
  | str (s : List UInt8)
  | nilp
  | ptr (b o : Nat)
  | glob (g : Nat)
  | nils
  | sl (b o len cap : Nat)
  | us (b o len sz : Nat)
  | es (b o sz : Nat)
  | es0
  | nilm
  | map (r : Nat)
  | nilf
  | func (fn : Fn) (first cap : List AV)
  | yield (l : Nat)
  | nili
  | iface (t : Nat) (v : AV)
  | agg (cs : List AV)
  | tup (vs : List AV)
  | opq (n : Nat)
  | oint (k : IntKind) (e : SX)
  | ostr (e : SX)
  | obool (e : SX)
  | osl (b : Nat) (off len : SX) (sz : Nat)
  | optr (b : Nat) (idx : SX) (j sz : Nat)
  | ous (b : Nat) (len : SX) (sz : Nat)
  | atl (n : Nat)
  | any
  deriving Inhabited

def AV.undef : AV := .tup []

def beqU : List UInt8 → List UInt8 → Bool
  | [], [] => true
  | a :: x, b :: y => bif Nat.beq a.toNat b.toNat then beqU x y else false
  | _, _ => false
def ieqZ : Int → Int → Bool
  | .ofNat a, .ofNat b => Nat.beq a b
  | .negSucc a, .negSucc b => Nat.beq a b
  | _, _ => false
mutual
def SX.beq : SX → SX → Bool
  | .ci a, .ci b => ieqZ a b
  | .cs a, .cs b => beqU a b
  | .cb a, .cb b => a == b
  | .va a, .va b => Nat.beq a b
  | .op p a, .op q b => decide (p = q) && SX.beqs a b
  | .app p a, .app q b => Nat.beq p q && SX.beqs a b
  | _, _ => false
def SX.beqs : List SX → List SX → Bool
  | [], [] => true
  | a :: x, b :: y => SX.beq a b && SX.beqs x y
  | _, _ => false
end

/-- A frame's slots: 256 at most. -/
abbrev TF := P16 (P16 AV)
structure PF where
  g : TF → AV
  s : AV → TF → TF
def mkPF (x y : Dg) : PF := ⟨fun t => y.g _ (x.g _ t), fun v t => x.s _ (y.s _ v (x.g _ t)) t⟩
def noPF : PF := ⟨fun _ => .undef, fun _ t => t⟩
def pfOf (n : Nat) : PF := bif Nat.blt n 256 then mkPF (dgOf (n / 16)) (dgOf (n % 16)) else noPF
def TF.get (t : TF) (n : Nat) : AV := (pfOf n).g t
def TF.set (t : TF) (n : Nat) (v : AV) : TF := (pfOf n).s v t
def row0 : P16 AV := P16.const .undef
def TF.empty : TF := P16.const row0

inductive ADef where
  | coll (b : Nat)
  | fn (f : FuncId) (cap args : List AV)

structure Ent where
  key : AV
  val : AV
  born : Nat

inductive Blk where
  | cells (elem fz : Nat) (cs : List AV)
  | arr (elem : Nat) (sig : List CT) (l : SX)
  | map (es : List Ent) (clock : Nat)
  | strIter (s : List UInt8) (pos : Nat)
  | mapIter (m : Option Nat) (since : Nat) (seen : List Nat) (stepped : Nat)
  | loop (st : LoopState) (pending : Option Code) (fn : FuncId) (tm : TF) (nt : Nat) (params : Array Tmp) (assign body : Code) (defers : Nat)
  | defd (taken : Bool)

/-- The heap's blocks: 65536 at most. -/
abbrev TH := P16 (P16 (P16 (P16 (Option Blk))))
structure PH where
  g : TH → Option Blk
  s : Option Blk → TH → TH
def mkPH (x y z u : Dg) : PH := ⟨fun t => u.g _ (z.g _ (y.g _ (x.g _ t))),
  fun v t => x.s _ (y.s _ (z.s _ (u.s _ v (z.g _ (y.g _ (x.g _ t)))) (y.g _ (x.g _ t))) (x.g _ t)) t⟩
def noPH : PH := ⟨fun _ => none, fun _ t => t⟩
def phOf (n : Nat) : PH := bif !(Nat.blt n 65536) then noPH else mkPH (dgOf (n / 4096)) (dgOf (n / 256 % 16)) (dgOf (n / 16 % 16)) (dgOf (n % 16))
structure Heap where
  t : TH
  next : Nat
  wm : Nat
def hrow0 : P16 (Option Blk) := P16.const none
def hrow1 : P16 (P16 (Option Blk)) := P16.const hrow0
def hrow2 : P16 (P16 (P16 (Option Blk))) := P16.const hrow1
def hget (b : Nat) (t : TH) (_ _ : Nat) : Option Blk := (phOf b).g t
def hput (b : Nat) (x : Option Blk) (t : TH) (next wm : Nat) : Heap := ⟨(phOf b).s x t, next, wm⟩
def hnew (x : Blk) (t : TH) (next wm : Nat) : Heap := ⟨(phOf next).s (some x) t, next + 1, wm⟩
def Heap.get (h : Heap) (b : Nat) : Option Blk := Heap.rec (hget b) h
def Heap.put (h : Heap) (b : Nat) (x : Option Blk) : Heap := Heap.rec (hput b x) h
def Heap.new (h : Heap) (x : Blk) : Heap := Heap.rec (hnew x) h
def Heap.empty : Heap := ⟨P16.const hrow2, 0, 0⟩

/-! Types -/
def szOf (P : Program) (t : TypeId) : Option Nat := (P.info? t).map (·.size)
def aggT (P : Program) (t : TypeId) : Option Bool := (P.underlying t).map fun
  | .struct _ | .array _ _ => true
  | _ => false

def ofCell : Value → Option AV
  | .bool b => some (.bool b)
  | .int k n => some (.int k n)
  | .string s => some (.str s.data.toList)
  | .pointer none => some .nilp
  | .slice none 0 0 => some .nils
  | .map none => some .nilm
  | .nilFunc => some .nilf
  | .nilIface => some .nili
  | _ => none
def ofVal : Value → Option AV
  | .agg cs => (cs.toList.mapM ofCell).map .agg
  | .tuple vs => match vs.toList with
    | [] => some .undef
    | _ => none
  | v => ofCell v
def zeroOf (P : Program) (t : TypeId) : Option AV := ((P.info? t).bind (·.zero)).bind ofVal

def AV.cells : AV → List AV
  | .agg cs => cs
  | v => [v]
def AV.nt : AV → Bool
  | .tup _ => false
  | .any => false
  | _ => true
def AV.one : AV → Bool
  | .agg _ | .tup _ | .any => false
  | _ => true
/-- What a row's cell may be told as. -/
def AV.oneA : AV → Bool
  | .agg _ | .tup _ => false
  | _ => true

/-! Integers -/
def iltb : Int → Int → Bool
  | .ofNat a, .ofNat b => Nat.blt a b
  | .negSucc _, .ofNat _ => true
  | .ofNat _, .negSucc _ => false
  | .negSucc a, .negSucc b => Nat.blt b a
def ieqb : Int → Int → Bool
  | .ofNat a, .ofNat b => Nat.beq a b
  | .negSucc a, .negSucc b => Nat.beq a b
  | _, _ => false
def limOf : IntKind → Nat
  | .i8 => 128 | .i16 => 32768 | .i32 => 2147483648 | .i64 => 9223372036854775808
  | .u8 => 256 | .u16 => 65536 | .u32 => 4294967296 | .u64 => 18446744073709551616
def wrapE (k : IntKind) (n : Int) : Int := match n with
  | .ofNat m => bif Nat.blt m (limOf k) then .ofNat m else k.wrap (.ofNat m)
  | .negSucc m => k.wrap (.negSucc m)

def natOf : Int → Option Nat
  | .ofNat n => some n
  | .negSucc _ => none

def arith (op : BinOp) (k : IntKind) (x y : Int) : Option AV :=
  match op with
  | .add => some (.int k (wrapE k (x + y)))
  | .sub => some (.int k (wrapE k (x - y)))
  | .mul => some (.int k (wrapE k (x * y)))
  | .quo => bif ieqb y 0 then none else some (.int k (wrapE k (x.tdiv y)))
  | .rem => bif ieqb y 0 then none else some (.int k (x.tmod y))
  | .and => some (.int k (wrapE k ((BitVec.ofInt k.bits x &&& BitVec.ofInt k.bits y).toNat)))
  | .or => some (.int k (wrapE k ((BitVec.ofInt k.bits x ||| BitVec.ofInt k.bits y).toNat)))
  | .xor => some (.int k (wrapE k ((BitVec.ofInt k.bits x ^^^ BitVec.ofInt k.bits y).toNat)))
  | .andNot => some (.int k (wrapE k ((BitVec.ofInt k.bits x &&& ~~~(BitVec.ofInt k.bits y)).toNat)))
  | .eql => some (.bool (ieqb x y))
  | .neq => some (.bool (!ieqb x y))
  | .lss => some (.bool (iltb x y))
  | .leq => some (.bool (!iltb y x))
  | .gtr => some (.bool (iltb y x))
  | .geq => some (.bool (!iltb x y))
  | _ => none

def shiftE (op : BinOp) (k : IntKind) (x y : Int) : Option AV :=
  match natOf y with
  | none => none
  | some y =>
    let n := min y k.bits
    match op with
    | .shl => some (.int k (wrapE k (x * 2 ^ n)))
    | .shr => some (.int k (match x with | .ofNat m => .ofNat (m / 2 ^ n) | .negSucc m => (Int.negSucc m).fdiv (2 ^ n)))
    | _ => none

def beqS (a : UInt8) (ih : List UInt8 → Bool) (y : List UInt8) : Bool := match y with
  | [] => false
  | b :: y => bif Nat.beq a.toNat b.toNat then ih y else false
def beqB (x : List UInt8) : List UInt8 → Bool := List.rec (motive := fun _ => List UInt8 → Bool) List.isEmpty (fun a _ => beqS a) x
def ltN (y : List UInt8) : Bool := match y with
  | [] => false
  | _ :: _ => true
def ltS (a : UInt8) (ih : List UInt8 → Bool) (y : List UInt8) : Bool := match y with
  | [] => false
  | b :: y => bif Nat.blt a.toNat b.toNat then true else bif Nat.beq a.toNat b.toNat then ih y else false
def ltB (x : List UInt8) : List UInt8 → Bool := List.rec (motive := fun _ => List UInt8 → Bool) ltN (fun a _ => ltS a) x
def lenLim : Nat := 4294967296
def strOp (op : BinOp) (x y : List UInt8) : Option AV :=
  match op with
  | .add => bif Nat.blt (x.length + y.length) lenLim then some (.str (x ++ y)) else none
  | .eql => some (.bool (beqB x y))
  | .neq => some (.bool (!beqB x y))
  | .lss => some (.bool (ltB x y))
  | .leq => some (.bool (!ltB y x))
  | .gtr => some (.bool (ltB y x))
  | .geq => some (.bool (!ltB x y))
  | _ => none

def isNilS : AV → Option Bool
  | .nils => some true
  | .sl _ _ _ _ => some false
  | .us _ _ _ _ => some false
  | .es _ _ _ => some false
  | .es0 => some false
  | _ => none
def isNilM : AV → Option Bool
  | .nilm => some true
  | .map _ => some false
  | _ => none
def isNilF : AV → Option Bool
  | .nilf => some true
  | .func _ _ _ => some false
  | .yield _ => some false
  | _ => none

def partE (P : Program) (t : TypeId) (cs : List AV) (off : Nat) : Option AV :=
  match aggT P t, szOf P t with
  | some true, some n => bif Nat.ble (off + n) cs.length then some (.agg ((cs.drop off).take n)) else none
  | some false, some _ => cs[off]?
  | _, _ => none

/-- '==' on comparable values. -/
def eqFields (P : Program) (ih : TypeId → AV → AV → Option Bool) (xs ys : List AV) : List Field → Option Bool
  | [] => some true
  | f :: r => bif f.name == "_" then eqFields P ih xs ys r else match partE P f.type xs f.offset, partE P f.type ys f.offset with
    | some a, some b => match ih f.type a b with
      | some true => eqFields P ih xs ys r
      | x => x
    | _, _ => none
def eqElems (P : Program) (ih : TypeId → AV → AV → Option Bool) (e n : Nat) (xs ys : List AV) : Nat → Nat → Option Bool
  | 0, _ => some true
  | k + 1, i => match partE P e xs (i * n), partE P e ys (i * n) with
    | some a, some b => match ih e a b with
      | some true => eqElems P ih e n xs ys k (i + 1)
      | x => x
    | _, _ => none
def eqPtr (P : Program) (e a o b o' : Nat) : Option Bool := match szOf P e with
  | some (_ + 1) => bif Nat.beq a b then some (Nat.beq o o') else none
  | _ => none
def eqStep (P : Program) (ih : TypeId → AV → AV → Option Bool) (t : TypeId) (x y : AV) : Option Bool :=
  match P.underlying t with
  | some .bool => match x, y with
    | .bool a, .bool b => some (a == b)
    | _, _ => none
  | some (.int _) => match x, y with
    | .int k a, .int k' b => if k = k' then some (ieqb a b) else none
    | .oint k a, .oint k' b => if k = k' then (bif SX.beq a b then some true else none) else none
    | _, _ => none
  | some .string => match x, y with
    | .str a, .str b => some (beqB a b)
    | .ostr a, .ostr b => bif SX.beq a b then some true else none
    | _, _ => none
  | some (.pointer e) => match x, y with
    | .nilp, .nilp => some true
    | .nilp, .ptr _ _ => some false
    | .ptr _ _, .nilp => some false
    | .ptr a o, .ptr b o' => eqPtr P e a o b o'
    | _, _ => none
  | some (.interface _) => match x, y with
    | .nili, .nili => some true
    | .nili, .iface _ _ => some false
    | .iface _ _, .nili => some false
    | .iface tx vx, .iface ty vy => bif Nat.beq tx ty then (match P.info? tx with
        | some i => bif i.comparable then ih tx vx vy else none
        | none => none)
      else some false
    | _, _ => none
  | some (.slice _) => match x, y with
    | .nils, b => isNilS b
    | a, .nils => isNilS a
    | _, _ => none
  | some (.map _ _) => match x, y with
    | .nilm, b => isNilM b
    | a, .nilm => isNilM a
    | _, _ => none
  | some (.func _ _ _) => match x, y with
    | .nilf, b => isNilF b
    | a, .nilf => isNilF a
    | _, _ => none
  | some (.struct fields) => match x, y with
    | .agg xs, .agg ys => bif P.stoodInHeld t then none else eqFields P ih xs ys fields.toList
    | _, _ => none
  | some (.array len elem) => match x, y with
    | .agg xs, .agg ys => match szOf P elem with
      | none => none
      | some n => eqElems P ih elem n xs ys len 0
    | _, _ => none
  | _ => none
def eqNo (_ : TypeId) (_ _ : AV) : Option Bool := none
def eqE (P : Program) (n : Nat) : TypeId → AV → AV → Option Bool := Nat.rec (motive := fun _ => TypeId → AV → AV → Option Bool) eqNo (fun _ => eqStep P) n

/-- A guard of the model's: two nil interface values of a type with methods. -/
def isConst : Operand → Bool
  | .const _ => true
  | _ => false
def guardE (P : Program) (t : TypeId) (x y : Operand) (a b : AV) : Bool :=
  match a with
  | .nili => isConst x || isConst y || (match b with
    | .nili => false
    | .opq _ => false
    | .any => false
    | _ => true)
  | .any => false
  | .agg _ => !(P.eqGuardType P.depth t)
  | .opq _ => false
  | _ => true
def guardOk (P : Program) (op : BinOp) (t : TypeId) (x y : Operand) (a b : AV) : Bool :=
  match op with
  | .eql | .neq => guardE P t x y a b
  | _ => true

def binI (op : BinOp) (k k' : IntKind) (a b : Int) : Option AV := match op with
  | .shl => shiftE .shl k a b
  | .shr => shiftE .shr k a b
  | op => if k = k' then arith op k a b else none
def binX (P : Program) (op : BinOp) (t : TypeId) (x y : AV) : Option AV := match op with
  | .eql => (eqE P 10000 t x y).map .bool
  | .neq => (eqE P 10000 t x y).map fun b => .bool (!b)
  | _ => none
/-- A number against one that is only known to be at least n. -/
def binL (op : BinOp) (k : IntKind) (a : Int) (n : Nat) : Option AV := match op, k with
  | .gtr, .i64 => bif iltb (.ofNat n) a then none else some (.bool false)
  | _, _ => none
def binE (P : Program) (op : BinOp) (t : TypeId) (x y : AV) : Option AV :=
  match x with
  | .int k a => match y with
    | .int k' b => binI op k k' a b
    | .atl n => binL op k a n
    | _ => none
  | .str a => match y with
    | .str b => strOp op a b
    | _ => none
  | x => binX P op t x y

def unE (op : UnOp) (x : AV) : Option AV :=
  match op, x with
  | .neg, .int k n => some (.int k (wrapE k (0 - n)))
  | .xor, .int k n => arith .xor k (if k.signed then -1 else k.max) n
  | .not, .bool b => some (.bool !b)
  | _, _ => none

/-! Memory -/
def loadE (P : Program) (t : TypeId) (a : AV) (h : Heap) : Option AV :=
  match a with
  | .ptr b o => match h.get b with
    | some (.cells _ _ cs) => partE P t cs o
    | _ => none
  | _ => none

def splice (cs : List AV) (o : Nat) (vs : List AV) : List AV := cs.take o ++ vs ++ cs.drop (o + vs.length)

def putCells (h : Heap) (b o : Nat) (vs : List AV) : Option Heap :=
  match vs with
  | [] => some h
  | vs => match h.get b with
    | some (.cells e fz cs) =>
      bif Nat.ble h.wm b && Nat.ble fz o && Nat.ble (o + vs.length) cs.length && vs.all AV.one then some (h.put b (some (.cells e fz (splice cs o vs)))) else none
    | _ => none

def storeE (P : Program) (t : TypeId) (a v : AV) (h : Heap) : Option Heap :=
  match a, szOf P t with
  | .ptr b o, some n => bif v.nt && Nat.beq v.cells.length n then putCells h b o v.cells else none
  | _, _ => none

def newVarE (t : TypeId) (v : AV) (h : Heap) : Option (AV × Heap) :=
  bif v.cells.all AV.one then some (.ptr h.next 0, h.new (.cells t 0 v.cells)) else none

def fillE (place : Nat → Option (Nat × Nat)) (cells : List AV) : List (Nat × AV) → Option (List AV)
  | [] => some cells
  | (i, v) :: rest =>
    match place i with
    | none => none
    | some (off, size) => bif v.nt && (Nat.beq v.cells.length size && Nat.ble (off + v.cells.length) cells.length) then fillE place (splice cells off v.cells) rest else none

def buildE (P : Program) (t : TypeId) (parts : List (Nat × AV)) : Option AV :=
  match zeroOf P t, P.underlying t with
  | some z, some (.struct fields) => (fillE (fun i => (fields[i]?).bind fun f => (szOf P f.type).map fun s => (f.offset, s)) z.cells parts).bind fun cs =>
      bif fields.all (fun f => (szOf P f.type).isSome) && z.nt then some (.agg cs) else none
  | some z, some (.array _ elem) => match szOf P elem with
    | some s => bif z.nt then (fillE (fun i => some (i * s, s)) z.cells parts).map .agg else none
    | none => none
  | _, _ => none

def rep : Nat → List AV → List AV
  | 0, _ => []
  | n + 1, l => l ++ rep n l

def buildSliceE (P : Program) (t : TypeId) (len : Nat) (parts : List (Nat × AV)) (h : Heap) : Option (AV × Heap) :=
  match P.underlying t with
  | some (.slice elem) => match szOf P elem, zeroOf P elem with
    | some s, some z => bif Nat.beq z.cells.length s && Nat.blt 0 s && Nat.ble (len * s) 1000000 then
        match fillE (fun i => some (i * s, s)) (rep len z.cells) parts with
        | some cs => bif cs.all AV.one then some (.sl h.next 0 len len, h.new (.cells elem 0 cs)) else none
        | none => none
      else none
    | _, _ => none
  | _ => none

def makeSliceE (P : Program) (t : TypeId) (l c : AV) (h : Heap) : Option (AV × Heap) :=
  match P.underlying t, l, c with
  | some (.slice elem), .int _ l, .int _ c => match natOf l, natOf c, szOf P elem, zeroOf P elem, P.info? elem with
    | some l, some c, some s, some z, some i =>
      bif Nat.ble l c && Nat.ble c 1000000 && Nat.ble i.bytes 1000 && Nat.beq z.cells.length s && Nat.blt 0 s && z.cells.all AV.one then some (.sl h.next 0 l c, h.new (.cells elem 0 (rep c z.cells))) else none
    | _, _, _, _, _ => none
  | _, _, _ => none

def fieldAddrE (P : Program) (s : TypeId) (a : AV) (f : Nat) : Option AV :=
  match P.underlying s, a with
  | some (.struct fields), .ptr b o => match fields[f]? with
    | some f => match szOf P f.type with
      | some (_ + 1) => some (.ptr b (o + f.offset))
      | _ => none
    | none => none
  | _, _ => none

def fieldE (P : Program) (t : TypeId) (x : AV) (f : Nat) : Option AV :=
  match P.underlying t, x with
  | some (.struct fields), .agg cs => (fields[f]?).bind fun f => partE P f.type cs f.offset
  | _, _ => none

def indexAddrE (P : Program) (t : TypeId) (x i : AV) : Option AV :=
  match i with
  | .int _ i => match natOf i, P.underlying t, x with
    | some i, some (.array len elem), .ptr b o => match szOf P elem with
      | some s => bif Nat.blt i len then some (.ptr b (o + i * s)) else none
      | none => none
    | some i, some (.slice elem), .sl b o len _ => match szOf P elem with
      | some s => bif Nat.blt i len then some (.ptr b (o + i * s)) else none
      | none => none
    | some i, some (.slice elem), .us b o len _ => match szOf P elem with
      | some s => bif Nat.blt i len then some (.ptr b (o + i * s)) else none
      | none => none
    | _, _, _ => none
  | _ => none

def indexE (P : Program) (t : TypeId) (x i : AV) : Option AV :=
  match i with
  | .int _ i => match natOf i, P.underlying t, x with
    | some i, some (.array len elem), .agg cs => match szOf P elem with
      | some s => bif Nat.blt i len then partE P elem cs (i * s) else none
      | none => none
    | some i, some .string, .str s => (s[i]?).map fun b => .int .u8 b.toNat
    | _, _, _ => none
  | _ => none

def bound (x : Option AV) (d : Nat) : Option Nat :=
  match x with
  | none => some d
  | some (.int _ i) => natOf i
  | some _ => none

/-- 'x[l:h:m]'. -/
def sliceE (P : Program) (t : TypeId) (x : AV) (lo hi mx : Option AV) (h : Heap) : Option AV :=
  match P.underlying t, x with
  | some .string, .str s => match bound lo 0, bound hi s.length, mx with
    | some l, some e, none => bif Nat.ble l e && Nat.ble e s.length then some (.str ((s.drop l).take (e - l))) else none
    | _, _, _ => none
  | some (.slice elem), .nils => match bound lo 0, bound hi 0, bound mx 0, szOf P elem with
    | some 0, some 0, some 0, some _ => some .nils
    | _, _, _, _ => none
  | some (.slice elem), .es b o sz => match bound lo 0, bound hi 0, mx, szOf P elem with
    | some 0, some 0, none, some _ => some (.es b o sz)
    | some 0, some 0, some m, some _ => match bound (some m) 0 with
      | some 0 => some .es0
      | _ => none
    | _, _, _, _ => none
  | some (.slice elem), .es0 => match bound lo 0, bound hi 0, bound mx 0, szOf P elem with
    | some 0, some 0, some 0, some _ => some .es0
    | _, _, _, _ => none
  | some (.slice elem), .sl b o len cap => match bound lo 0, bound hi len, bound mx cap, szOf P elem with
    | some l, some e, some m, some s => bif Nat.ble l e && Nat.ble e m && Nat.ble m cap then some (.sl b (bif Nat.beq m l then o else o + l * s) (e - l) (m - l)) else none
    | _, _, _, _ => none
  | some (.slice elem), .us b o len sz => match bound lo 0, bound hi len, szOf P elem, h.get b with
    | some l, some e, some s, some (.cells _ _ cs) => bif Nat.beq s sz && Nat.ble l e && Nat.blt 0 s && Nat.ble (o + e * s) cs.length then
        (match mx with
        | none => bif Nat.blt (o + l * s) cs.length || Nat.beq l 0 then some (.us b (o + l * s) (e - l) sz) else some (.es b (o + l * s) sz)
        | some m => match bound (some m) 0 with
          | some m => bif Nat.ble e m && Nat.ble (o + m * s) cs.length then some (.sl b (bif Nat.beq m l then o else o + l * s) (e - l) (m - l)) else none
          | none => none)
        else none
    | _, _, _, _ => none
  | some (.array n elem), .ptr b o => match bound lo 0, bound hi n, bound mx n, szOf P elem with
    | some l, some e, some m, some s => bif Nat.ble l e && Nat.ble e m && Nat.ble m n then some (.sl b (bif Nat.beq m l then o else o + l * s) (e - l) (m - l)) else none
    | _, _, _, _ => none
  | _, _ => none

/-- The elements that an append or a copy hands over. -/
def firstE (s n : Nat) (x : AV) (h : Heap) : Option (List AV) :=
  match x with
  | .nils => bif Nat.beq n 0 then some [] else none
  | .es _ _ _ | .es0 => bif Nat.beq n 0 then some [] else none
  | .str l => some ((l.take n).map fun b => .int .u8 b.toNat)
  | .sl b o _ _ | .us b o _ _ => match h.get b with
    | some (.cells _ _ cs) => bif Nat.ble (o + n * s) cs.length && ((cs.drop o).take (n * s)).all AV.one then some ((cs.drop o).take (n * s)) else none
    | _ => none
  | _ => none
def lenE : AV → Option Nat
  | .nils | .es _ _ _ | .es0 => some 0
  | .str l => some l.length
  | .sl _ _ n _ | .us _ _ n _ => some n
  | _ => none

def room : Nat := 1000000
/-- What is appended: a slice's or a text's elements. -/
def newL (s : Nat) (y : AV) (h : Heap) : Option (Nat × List AV) :=
  match lenE y with
  | some n => (firstE s n y h).bind fun l => bif Nat.beq l.length (n * s) then some (n, l) else none
  | none => none
/-- So many zero values. -/
def newZ (z : List AV) (y : AV) : Option (Nat × List AV) :=
  match y with
  | .int _ m => match natOf m with
    | some n => bif Nat.ble n room && z.all AV.one && Nat.blt 0 z.length then some (n, rep n z) else none
    | none => none
  | _ => none
def newE (P : Program) (yt : TypeId) (s : Nat) (z : List AV) (y : AV) (h : Heap) : Option (Nat × List AV) :=
  match P.underlying yt with
  | some (.slice _) => newL s y h
  | some .string => newL s y h
  | some (.int _) => newZ z y
  | _ => none
def appendTo (elem s : Nat) (x : AV) (n : Nat) (new : List AV) (h : Heap) : Option (AV × Heap) :=
  match x with
  | .nils => some (.us h.next 0 n s, h.new (.cells elem 0 new))
  | .es0 => some (.us h.next 0 n s, h.new (.cells elem 0 new))
  | .sl b o len cap =>
    bif Nat.ble (len + n) cap then (putCells h b (o + len * s) new).map fun h' => (.sl b o (len + n) cap, h')
    else (firstE s len x h).bind fun old => bif Nat.beq old.length (len * s) then some (.us h.next 0 (len + n) s, h.new (.cells elem 0 (old ++ new))) else none
  | .us b o len sz => bif !(Nat.beq s sz) then none else match h.get b with
    | some (.cells e fz cs) =>
      bif Nat.ble (o + (len + n) * s) cs.length then (putCells h b (o + len * s) new).map fun h' => (.us b o (len + n) s, h')
      else bif Nat.ble h.wm b && Nat.ble fz (o + len * s) && Nat.ble (o + len * s) cs.length && Nat.beq e elem then
        some (.us h.next 0 (len + n) s, (h.put b none).new (.cells e (fz - o) ((cs.drop o).take (len * s) ++ new)))
      else none
    | _ => none
  | .es b o sz => bif !(Nat.beq s sz) then none else match h.get b with
    | some (.cells e fz cs) =>
      bif Nat.ble h.wm b && Nat.ble fz o && Nat.beq e elem then some (.us h.next 0 n s, (h.put b none).new (.cells e 0 new)) else none
    | _ => none
  | _ => none
def fitsE (s : Nat) (x : AV) (h : Heap) : Bool :=
  match x with
  | .nils => true
  | .es _ _ _ => true
  | .es0 => true
  | .sl _ _ l c => Nat.ble l c
  | .us b o l sz => Nat.beq s sz && (match h.get b with
    | some (.cells _ _ cs) => Nat.ble (o + l * s) cs.length
    | _ => false)
  | _ => false
/-- A struct that begins with a pointer to its like: its variables lie at a block's head. -/
def fixT (P : Program) (t : TypeId) : Bool := match P.underlying t with
  | some (.struct fs) => match fs[0]? with
    | some f => match P.underlying f.type with
      | some (.pointer u) => Nat.beq u t
      | _ => false
    | none => false
  | _ => false
def appendE (P : Program) (argTypes : Array TypeId) (x y : AV) (h : Heap) : Option (AV × Heap) :=
  match (argTypes[0]?).bind P.underlying, argTypes[1]? with
  | some (.slice elem), some yt => match lenE x, P.info? elem, zeroOf P elem with
    | some lx, some i, some z =>
      match newE P yt i.size z.cells y h with
      | none => none
      | some (n, new) =>
        bif Nat.blt 0 i.size && Nat.beq z.cells.length i.size && Nat.ble (lx + n) room && Nat.ble i.bytes 1000 && Nat.beq argTypes.size 2 && !(fixT P elem) then
          (bif Nat.beq n 0 then (bif fitsE i.size x h then some (x, h) else none) else appendTo elem i.size x n new h)
        else none
    | _, _, _ => none
  | _, _ => none

def copyTo (x : AV) (n : Nat) (new : List AV) (h : Heap) : Option (AV × Heap) :=
  match x with
  | .nils => some (.int .i64 n, h)
  | .es _ _ _ => some (.int .i64 n, h)
  | .es0 => some (.int .i64 n, h)
  | .sl b o _ _ => (putCells h b o new).map fun h' => (.int .i64 n, h')
  | .us b o _ _ => (putCells h b o new).map fun h' => (.int .i64 n, h')
  | _ => none
def copyE (P : Program) (argTypes : Array TypeId) (x y : AV) (h : Heap) : Option (AV × Heap) :=
  match (argTypes[0]?).bind P.underlying with
  | some (.slice elem) => match szOf P elem, lenE x, lenE y with
    | some s, some lx, some ly => (firstE s (Nat.min ly lx) y h).bind fun new => copyTo x (Nat.min ly lx) new h
    | _, _, _ => none
  | _ => none

/-! Maps -/
def plainKey : AV → Bool
  | .bool _ | .int _ _ | .str _ => true
  | .agg cs => cs.all fun
    | .bool _ | .int _ _ | .str _ => true
    | _ => false
  | _ => false
def cellEq : AV → AV → Bool
  | .bool a, .bool b => a == b
  | .int k a, .int k' b => (k == k') && ieqb a b
  | .str a, .str b => beqB a b
  | _, _ => false
def cellsEq : List AV → List AV → Bool
  | [], [] => true
  | a :: x, b :: y => cellEq a b && cellsEq x y
  | _, _ => false
def keyEq : AV → AV → Bool
  | .agg xs, .agg ys => cellsEq xs ys
  | x, y => cellEq x y
def findK (k : AV) : List Ent → Nat → Option (Nat × AV)
  | [], _ => none
  | e :: r, i => bif keyEq e.key k then some (i, e.val) else findK k r (i + 1)

end
end Go.Ev
