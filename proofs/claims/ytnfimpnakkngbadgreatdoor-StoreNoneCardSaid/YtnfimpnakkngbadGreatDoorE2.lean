/- The evaluator: one operation; the plan of a region that draws; the run. -/
import Derived.Test.YtnfimpnakkngbadGreatDoorE1
set_option linter.unusedVariables false
namespace Go.Ev
open Go
noncomputable section

inductive Ext where
  | casI (k : IntKind) | loadI (k : IntKind) | storeT | addI (k : IntKind) | nop | nop1 | ident | count | indexByte | mapsClone | makeNoZero | overlaps (t r : TypeId)
/-- What is known of operations on values that are not looked into. -/
inductive FK where
  | bin (op : BinOp) | un (op : UnOp) | conv (d : TypeId) | len | max | min | slc
  deriving DecidableEq
/-! Trees: what a run over symbols gives. -/
structure LHd where
  id : Nat
  s0 : List SX
  v0 : Nat
  fv : List SX
inductive VT where
  | bad
  | ite (e : SX) (a b : VT)
  | need (e : SX) (x : VT)
  | ret (i : Nat) (out : List SX)
  | loop (hd : LHd) (body : VT) (ks : List VT)
  deriving Inhabited
inductive Ex where
  | norm | exit (id : Nat) | ret
structure StP where
  slots : List (Nat × AV)
  blks : List (Nat × Option Blk)
  next : Nat
/-- A row of the loop's own: the slot that holds it, the block that it is told of by. -/
structure OwnP where
  slot : Nat
  blk : Nat
  elem : Nat
  sig : List CT
structure LSpec where
  id : Nat
  owns : List OwnP
  v0 : Nat
  fv : List SX
  dead : List Nat
  head : StP
  exits : List (Ex × StP)
structure Env where
  P : Program
  ext : FuncId → Option Ext
  amb : FuncId → Bool
  caps : FuncId → Bool
  hook : FuncId → List AV → Heap → Option (AV × Heap)
  fact : FK → List AV → Option AV
  lspec : FuncId → Nat → Option LSpec

structure Fr where
  tm : TF
  nt : Nat
  pc : List (SX × Bool)
  fn : FuncId
  ds : List ADef
  ro : Option Nat

def Fr.slot (a : Fr) (t : Nat) : AV := (pfOf t).g a.tm
def fput (d : Nat) (v : AV) (tm : TF) (nt : Nat) (pc : List (SX × Bool)) (fn : FuncId) (ds : List ADef) (ro : Option Nat) : Fr := bif Nat.blt d nt then ⟨tm.set d v, nt, pc, fn, ds, ro⟩ else ⟨tm, nt, pc, fn, ds, ro⟩
def fcond (p : SX × Bool) (tm : TF) (nt : Nat) (pc : List (SX × Bool)) (fn : FuncId) (ds : List ADef) (ro : Option Nat) : Fr := ⟨tm, nt, p :: pc, fn, ds, ro⟩
def fclear (tm : TF) (nt : Nat) (pc : List (SX × Bool)) (fn : FuncId) (ds : List ADef) (ro : Option Nat) : Fr := ⟨tm, nt, [], fn, ds, ro⟩
def fback (x : Option Nat) (tm : TF) (nt : Nat) (pc : List (SX × Bool)) (fn : FuncId) (ds : List ADef) (ro : Option Nat) : Fr := ⟨tm, nt, pc, fn, ds, x⟩
def Fr.back (a : Fr) (x : Option Nat) : Fr := Fr.rec (fback x) a
def fmark (m : List ADef) (tm : TF) (nt : Nat) (pc : List (SX × Bool)) (fn : FuncId) (ds : List ADef) (ro : Option Nat) : Fr := ⟨tm, nt, pc, fn, m ++ ds, ro⟩
def Fr.mark (a : Fr) (m : List ADef) : Fr := Fr.rec (fmark m) a
def Fr.clear (a : Fr) : Fr := Fr.rec fclear a
def Fr.cond (a : Fr) (p : SX × Bool) : Fr := Fr.rec (fcond p) a
/-- A condition that holds, or does not hold, whatever its symbols are. -/
def sureMin (p : Prim) (l : List SX) (d : Int) : Option Bool := match p, l with
  | .imin, [_, .ci c] => bif iltb c d then some true else none
  | _, _ => none
def sureCmp (p : Prim) (l : List SX) : Option Bool := match p, l with
  | .cmp .lss, [.op q x, .ci d] => sureMin q x d
  | _, _ => none
def sure (e : SX) : Option Bool := match e with
  | .op p l => sureCmp p l
  | _ => none
def pcFind (e : SX) : List (SX × Bool) → Option Bool
  | [] => sure e
  | p :: r => bif SX.beq e p.1 then some p.2 else pcFind e r
def Fr.put (a : Fr) (dst : Option Tmp) (v : AV) : Fr :=
  match dst with
  | none => a
  | some d => Fr.rec (fput d v) a
def Fr.ev (a : Fr) : Operand → Option AV
  | .tmp t => some (a.slot t)
  | .const v => ofVal v
  | .global g => some (.glob g)
  | .func f => some (.func (.func f) [] [])

inductive Res where
  | val (v : AV) (h : Heap)
  | need (e : SX) (v : AV) (h : Heap)
  | enter (f : FuncId) (args : List AV)
  | choice (l : List (AV × Heap))
  | yield (l : Nat) (args : List AV)
  | defer (d : ADef)
  | bad

def evs (ρ : Operand → Option AV) : List Operand → Option (List AV)
  | [] => some []
  | x :: r => match ρ x, evs ρ r with
    | some v, some vs => some (v :: vs)
    | _, _ => none
def evps (ρ : Operand → Option AV) : List (Nat × Operand) → Option (List (Nat × AV))
  | [] => some []
  | (i, x) :: r => match ρ x, evps ρ r with
    | some v, some vs => some ((i, v) :: vs)
    | _, _ => none
def evo (ρ : Operand → Option AV) : Option Operand → Option (Option AV)
  | none => some none
  | some x => (ρ x).map some

def ov (x : Option AV) (h : Heap) : Res := match x with
  | some v => .val v h
  | none => .bad
def oh (x : Option (AV × Heap)) : Res := match x with
  | some (v, h) => .val v h
  | none => .bad
def os (x : Option Heap) : Res := match x with
  | some h => .val .undef h
  | none => .bad

/-! Maps -/
def basicT (P : Program) (t : TypeId) : Bool := match P.underlying t with
  | some .bool => true
  | some (.int _) => true
  | some .string => true
  | _ => false
def keyOk (P : Program) (t : TypeId) (k : AV) : Bool :=
  match P.underlying t, k with
  | some .bool, .bool _ => true
  | some (.int _), .int _ _ => true
  | some .string, .str _ => true
  | some (.struct fields), .agg cs => fields.all fun f => (partE P f.type cs f.offset).isSome && basicT P f.type
  | _, _ => false
def findE (P : Program) (kt : TypeId) (k : AV) : List Ent → Nat → Option (Option (Nat × Ent))
  | [], _ => some none
  | e :: r, i => match eqE P 10000 kt k e.key with
    | some true => some (some (i, e))
    | some false => findE P kt k r (i + 1)
    | none => none
def setEnt : List Ent → Nat → Ent → List Ent
  | [], _, _ => []
  | _ :: r, 0, x => x :: r
  | e :: r, i + 1, x => e :: setEnt r i x
def delEnt : List Ent → Nat → List Ent
  | [], _ => []
  | _ :: r, 0 => r
  | e :: r, i + 1 => e :: delEnt r i

def entsOf (m : AV) (h : Heap) : Option (List Ent) :=
  match m with
  | .nilm => some []
  | .map r => match h.get r with
    | some (.map es _) => some es
    | _ => none
  | _ => none
def lookupE (P : Program) (t : TypeId) (m k : AV) (ok : Bool) (h : Heap) : Option AV :=
  match P.underlying t with
  | some (.map kt et) => bif keyOk P kt k then
    match entsOf m h with
    | none => none
    | some es => match findE P kt k es 0 with
      | none => none
      | some (some (_, e)) => some (bif ok then .tup [e.val, .bool true] else e.val)
      | some none => (zeroOf P et).map fun z => bif ok then .tup [z, .bool false] else z
    else none
  | _ => none

def mapUpdateE (P : Program) (t : TypeId) (m k v : AV) (h : Heap) : Option Heap :=
  match P.underlying t, m with
  | some (.map kt _), .map r => bif keyOk P kt k && Nat.ble h.wm r then
    match h.get r with
    | some (.map es c) => match findE P kt k es 0 with
      | none => none
      | some (some (i, e)) => bif keyEq e.key k then some (h.put r (some (.map (setEnt es i ⟨k, v, e.born⟩) c))) else none
      | some none => some (h.put r (some (.map (es ++ [⟨k, v, c⟩]) (c + 1))))
    | _ => none
    else none
  | _, _ => none

def mapEntryE (P : Program) (t : TypeId) (m k : AV) (h : Heap) : Option (AV × Heap) :=
  match P.underlying t, m with
  | some (.map kt et), .map r => bif keyOk P kt k && Nat.ble h.wm r then
    match h.get r with
    | some (.map es c) => match findE P kt k es 0 with
      | none => none
      | some (some (i, e)) => bif keyEq e.key k then some (.tup [e.val, .int .i64 e.born], h.put r (some (.map (setEnt es i ⟨k, e.val, e.born⟩) c))) else none
      | some none => (zeroOf P et).map fun z => (.tup [z, .int .i64 c], h.put r (some (.map (es ++ [⟨k, z, c⟩]) (c + 1))))
    | _ => none
    else none
  | _, _ => none

def findBorn (b : Nat) : List Ent → Nat → Option (Nat × Ent)
  | [], _ => none
  | e :: r, i => bif Nat.beq e.born b then some (i, e) else findBorn b r (i + 1)
def entryStoreE (m s v : AV) (h : Heap) : Option Heap :=
  match m, s with
  | .map r, .int _ s => match h.get r, natOf s with
    | some (.map es c), some b => match findBorn b es 0 with
      | some (i, e) => bif Nat.ble h.wm r then some (h.put r (some (.map (setEnt es i ⟨e.key, v, e.born⟩) c))) else none
      | none => none
    | _, _ => none
  | _, _ => none

def deleteE (P : Program) (t : TypeId) (m k : AV) (h : Heap) : Option Heap :=
  match P.underlying t, m with
  | some (.map kt _), .map r => bif keyOk P kt k && Nat.ble h.wm r then
    match h.get r with
    | some (.map es c) => match findE P kt k es 0 with
      | none => none
      | some (some (i, _)) => some (h.put r (some (.map (delEnt es i) c)))
      | some none => some (h.put r (some (.map es c)))
    | _ => none
    else none
  | _, _ => none

def rangeE (P : Program) (t : TypeId) (x : AV) (h : Heap) : Option (AV × Heap) :=
  match P.underlying t, x with
  | some (.map _ _), .nilm => some (.ptr h.next 0, h.new (.mapIter none 0 [] 0))
  | some (.map _ _), .map m => match h.get m with
    | some (.map _ c) => some (.ptr h.next 0, h.new (.mapIter (some m) c [] c))
    | _ => none
  | _, _ => none

def nextLeft (es : List Ent) (seen : List Nat) : List Ent := es.filter fun e => !(seen.contains e.born)
def nextM (r m since : Nat) (seen : List Nat) (c : Nat) (h : Heap) (left : List Ent) : Res :=
  match left with
  | [] => .val (.tup [.bool false]) h
  | left => .choice (left.map fun e => (.tup [.bool true, e.key, e.val], h.put r (some (.mapIter (some m) since (seen ++ [e.born]) c))))
def nextE (it : AV) (isStr : Bool) (h : Heap) : Res :=
  match it, isStr with
  | .ptr r 0, false => match h.get r with
    | some (.mapIter none _ _ _) => .val (.tup [.bool false]) h
    | some (.mapIter (some m) since seen last) => match h.get m with
      | some (.map es c) =>
        bif Nat.ble h.wm r && !(!seen.isEmpty && !es.isEmpty && es.all (fun e => Nat.ble last e.born)) && !((nextLeft es seen).any (fun e => Nat.ble since e.born)) then nextM r m since seen c h (nextLeft es seen) else .bad
      | _ => .bad
    | _ => .bad
  | _, _ => .bad

def lastOf : List Nat → Option Nat
  | [] => none
  | [x] => some x
  | _ :: r => lastOf r
def entryE (it : AV) (h : Heap) : Option AV :=
  match it with
  | .ptr r 0 => match h.get r with
    | some (.mapIter (some m) _ seen stepped) => match lastOf seen, h.get m with
      | some s, some (.map es c) => bif Nat.beq c stepped then (findBorn s es 0).map fun x => .tup [x.2.key, x.2.val] else none
      | _, _ => none
    | _ => none
  | _ => none

/-! Interfaces -/
def failsE (P : Program) (asserted : TypeId) (ok : Bool) : Option AV := bif ok then (zeroOf P asserted).map fun z => .tup [z, .bool false] else none
def holdsE (ok : Bool) (v : AV) : Option AV := some (bif ok then .tup [v, .bool true] else v)
def typeAssertE (P : Program) (x : AV) (asserted : TypeId) (ok : Bool) : Option AV :=
  match P.underlying asserted with
  | some (.interface _) => none
  | some _ => match x with
    | .nili => failsE P asserted ok
    | .iface t v => bif Nat.beq t asserted then holdsE ok v else failsE P asserted ok
    | _ => none
  | none => none

/-- A row's bytes. -/
def bytesA : List AV → Option (List UInt8)
  | [] => some []
  | .int .u8 (.ofNat n) :: r => match bytesA r with
    | some l => bif Nat.blt n 256 then some (UInt8.ofNat n :: l) else none
    | none => none
  | _ => none
def u8T (P : Program) (e : TypeId) : Bool := match P.underlying e with
  | some (.int .u8) => true
  | _ => false
def strRow (P : Program) (e : TypeId) (l : List UInt8) (h : Heap) : Option (AV × Heap) :=
  bif u8T P e && Nat.ble l.length room then some (.us h.next 0 l.length 1, h.new (.cells e 0 (l.map fun b => .int .u8 b.toNat))) else none
def rowStr (P : Program) (e : TypeId) (x : AV) (h : Heap) : Option (List UInt8) := bif u8T P e then match x with
  | .nils => some []
  | .es _ _ _ => some []
  | .es0 => some []
  | .sl b o n c => (firstE 1 n (.sl b o n c) h).bind bytesA
  | .us b o n s => (firstE 1 n (.us b o n s) h).bind bytesA
  | _ => none
  else none
def toUnsafe (P : Program) (t b o : Nat) (h : Heap) : Option (AV × Heap) := match szOf P t, h.get b with
  | some (_ + 1), some (.cells _ _ cs) => bif Nat.blt o cs.length then some (.ptr b o, h) else none
  | _, _ => none
def ofUnsafe (P : Program) (t b o : Nat) (h : Heap) : Option (AV × Heap) := match o, szOf P t, h.get b with
  | 0, some (n + 1), some (.cells e _ cs) => bif Nat.beq e t && Nat.ble (n + 1) cs.length && fixT P t then some (.ptr b 0, h) else none
  | _, _, _ => none
def convA (P : Program) (s d : TypeId) (x : AV) (h : Heap) : Option (AV × Heap) := match P.underlying s, P.underlying d, x with
  | some .string, some (.slice e), .str l => strRow P e l h
  | _, _, _ => none
def convE (P : Program) (s d : TypeId) (x : AV) (h : Heap) : Option (AV × Heap) :=
  match P.underlying s, P.underlying d, x with
  | some _, some (.int k), .int _ n => some (.int k (wrapE k n), h)
  | some _, some .string, .str l => some (.str l, h)
  | some (.slice e), some .string, x => (rowStr P e x h).map fun l => (.str l, h)
  | some (.pointer t), some .unsafePointer, .ptr b o => toUnsafe P t b o h
  | some .unsafePointer, some (.pointer t), .ptr b o => ofUnsafe P t b o h
  | _, _, _ => none

/-- Library functions without a Go body. -/
def countB (c : Nat) : List UInt8 → Nat
  | [] => 0
  | x :: r => bif Nat.beq x.toNat c then countB c r + 1 else countB c r
def findB (c : Nat) : List UInt8 → Nat → Option Nat
  | [], _ => none
  | x :: r, i => bif Nat.beq x.toNat c then some i else findB c r (i + 1)
def indexB (c : Nat) (l : List UInt8) : Int := match findB c l 0 with
  | some i => (i : Int)
  | none => -1
def extE (P : Program) (e : Ext) (args : List AV) (h : Heap) : Option (AV × Heap) :=
  match e, args with
  | .addI k, [.ptr b o, .int _ y] => match h.get b with
    | some (.cells _ _ cs) => match cs[o]? with
      | some (.int k2 n) => if k = k2 then (putCells h b o [.int k (wrapE k (n + y))]).map fun h' => (.int k (wrapE k (n + y)), h') else none
      | _ => none
    | _ => none
  | .mapsClone, [.iface t (.map r)] => match h.get r with
    | some (.map es c) => some (.iface t (.map h.next), h.new (.map es c))
    | _ => none
  | .ident, [x] => some (x, h)
  | .count, [.str l, .int .u8 c] => (natOf c).bind fun c => bif Nat.blt c 256 then some (.int .i64 (countB c l : Nat), h) else none
  | .indexByte, [.str l, .int .u8 c] => (natOf c).bind fun c => bif Nat.blt c 256 then some (.int .i64 (indexB c l), h) else none
  | _, _ => none

def isStr : AV → Bool
  | .str _ => true
  | _ => false
def lenB (P : Program) (t : Option TypeDesc) (x : AV) (h : Heap) : Option Nat := match t with
  | some .string => match x with
    | .str l => some l.length
    | _ => none
  | some (.slice _) => bif isStr x then none else lenE x
  | some (.map _ _) => match x with
    | .nilm => some 0
    | .map r => match h.get r with
      | some (.map es _) => some es.length
      | _ => none
    | _ => none
  | _ => none
def clearS (P : Program) (elem : TypeId) (b o n : Nat) (h : Heap) : Option (AV × Heap) := match n with
  | 0 => some (.undef, h)
  | n => match zeroOf P elem with
    | some z => bif Nat.blt 0 z.cells.length then (putCells h b o (rep n z.cells)).map fun h' => (.undef, h') else none
    | none => none
def clearE (P : Program) (t : Option TypeDesc) (x : AV) (h : Heap) : Option (AV × Heap) := match t with
  | some (.slice elem) => match x with
    | .nils => some (.undef, h)
    | .sl b o n _ => clearS P elem b o n h
    | .us b o n _ => clearS P elem b o n h
    | _ => none
  | some (.map _ _) => match x with
    | .nilm => some (.undef, h)
    | .map r => match h.get r with
      | some (.map _ c) => bif Nat.ble h.wm r then some (.undef, h.put r (some (.map [] c))) else none
      | _ => none
    | _ => none
  | _ => none
/-- A text of a row's bytes: the row is given up. -/
def unsStr (P : Program) (argTypes : Array TypeId) (b o n : Nat) (h : Heap) : Option (AV × Heap) := match h.get b, (argTypes[0]?).bind P.underlying with
  | some (.cells e _ cs), some (.pointer pt) => bif Nat.ble h.wm b && Nat.beq e pt && Nat.ble (o + n) cs.length && Nat.ble n room then (match szOf P e, bytesA ((cs.drop o).take n) with
    | some 1, some l => some (.str l, h.put b none)
    | _, _ => none) else none
  | _, _ => none
def unsData (x : AV) (h : Heap) : Option (AV × Heap) := match x with
  | .sl b o _ (_ + 1) => some (.ptr b o, h)
  | .us b o (n + 1) sz => bif Nat.blt 0 sz && fitsE sz (.us b o (n + 1) sz) h then some (.ptr b o, h) else none
  | .nils => some (.nilp, h)
  | _ => none
def unsS (P : Program) (argTypes : Array TypeId) (p : AV) (n : Option Nat) (h : Heap) : Option (AV × Heap) := match argTypes[0]?, n with
  | some _, some 0 => match p with
    | .nilp => some (.str [], h)
    | .ptr _ _ => some (.str [], h)
    | _ => none
  | some _, some (n + 1) => match p with
    | .ptr b o => unsStr P argTypes b o (n + 1) h
    | _ => none
  | _, _ => none
/-- A slice's room. -/
def capE (x : AV) (h : Heap) : Option AV := match x with
  | .nils => some (.int .i64 0)
  | .es0 => some (.int .i64 0)
  | .sl _ _ _ c => some (.int .i64 c)
  | .us b o _ sz => match h.get b with
    | some (.cells _ _ cs) => bif Nat.blt 0 sz && Nat.ble o cs.length then some (.atl ((cs.length - o) / sz)) else none
    | _ => none
  | _ => none
def builtinE (P : Program) (b : Builtin) (argTypes : Array TypeId) (args : List AV) (h : Heap) : Option (AV × Heap) :=
  match b, args with
  | .len, [x] => (lenB P ((argTypes[0]?).bind P.underlying) x h).map fun (n : Nat) => (AV.int .i64 (n : Int), h)
  | .append, [x, y] => appendE P argTypes x y h
  | .copy, [x, y] => copyE P argTypes x y h
  | .clear, [x] => clearE P ((argTypes[0]?).bind P.underlying) x h
  | .delete, [m, k] => match argTypes[0]? with
    | some t => (deleteE P t m k h).map fun h' => (.undef, h')
    | none => none
  | .unsafeSliceData, [x] => unsData x h
  | .unsafeString, [p, .int _ n] => unsS P argTypes p (natOf n) h
  | .cap, [x] => match (argTypes[0]?).bind P.underlying with
    | some (.slice _) => (capE x h).map fun v => (v, h)
    | _ => none
  | .max, [.int k x, .int _ y] => some (.int k (bif iltb x y then y else x), h)
  | .min, [.int k x, .int _ y] => some (.int k (bif iltb y x then y else x), h)
  | _, _ => none

/-- Where the first slice's row lies; the second's. -/
def atOf (x : AV) : Option (Nat × Nat) := match x with
  | .sl b o _ _ => some (b, o)
  | .us b o _ _ => some (b, o)
  | _ => none
def apart (a b : Option (Nat × Nat)) (h : Heap) : Bool := match a, b with
  | some p, some q => !(Nat.beq p.1 q.1) && (match h.get p.1, h.get q.1 with
    | some (.cells _ fz cs), some (.cells _ _ _) => Nat.ble fz p.2 && Nat.blt p.2 cs.length
    | _, _ => false)
  | _, _ => false
def overE (t : TypeId) (P : Program) (args : List AV) (h : Heap) : Res := match args with
  | [x, y] => match P.underlying t with
    | some (.slice e) => match szOf P e with
      | some _ => bif apart (atOf x) (atOf y) h then .choice [(.bool false, h), (.bool true, h)] else .bad
      | none => .bad
    | _ => .bad
  | _ => .bad
def extC (P : Program) (e : Ext) (args : List AV) (h : Heap) : Res := match e with
  | .overlaps t _ => overE t P args h
  | e => oh (extE P e args h)
def callE (E : Env) (f : FuncId) (args : List AV) (h : Heap) : Res :=
  match E.P.funcs[f]? with
  | none => .bad
  | some fn => match fn.body with
    | some _ => .enter f args
    | none => match E.ext f with
      | some e => extC E.P e args h
      | none => .bad
def methodE (P : Program) (t : TypeId) (name : String) : Option FuncId :=
  match P.info? t with
  | some i => match i.methods.find? (·.name == name) with
    | some m => match m.path.toList with
      | [] => match m.func, P.underlying t with
        | some (f, true), some (.pointer _) => some f
        | some (_, _), some (.pointer _) => none
        | some (f, false), some _ => some f
        | _, _ => none
      | _ => none
    | none => none
  | none => none
def callMeth (E : Env) (name : String) (first args : List AV) (h : Heap) : Res := match first with
  | .iface t v :: rest => match methodE E.P t name with
    | some g => callE E g (v :: (rest ++ args)) h
    | none => .bad
  | _ => .bad
def callVal (E : Env) (f : AV) (args : List AV) (h : Heap) : Res :=
  match f with
  | .func (.func f) first cap => callE E f (first ++ args ++ cap) h
  | .func (.method name) first _ => callMeth E name first args h
  | .yield l => .yield l args
  | _ => .bad

def nilCheckE (x : AV) : Option AV :=
  match x with
  | .nilp | .nili | .nilf => none
  | .opq _ => none
  | .any => none
  | .func (.method _) _ _ => none
  | x => some x

def orF (E : Env) (x : Option AV) (k : FK) (vs : List AV) : Option AV := match x with
  | some v => some v
  | none => E.fact k vs

def sPick (ρ : Operand → Option AV) (a b : Operand) (h : Heap) (c : Option AV) : Res := match c with
  | some (.bool t) => ov (bif t then ρ a else ρ b) h
  | _ => .bad
def sNew (e : TypeId) (h : Heap) (v : Option AV) : Res := match v with
  | some z => oh (newVarE e z h)
  | none => .bad
def sBuild (P : Program) (t : TypeId) (h : Heap) (ps : Option (List (Nat × AV))) : Res := match ps with
  | some ps => ov (buildE P t ps) h
  | none => .bad
def sBuildSlice (P : Program) (t n : Nat) (h : Heap) (ps : Option (List (Nat × AV))) : Res := match ps with
  | some ps => oh (buildSliceE P t n ps h)
  | none => .bad
def sLoad (P : Program) (t : TypeId) (h : Heap) (a : Option AV) : Res := match a with
  | some a => ov (loadE P t a h) h
  | none => .bad
def sStore (P : Program) (t : TypeId) (h : Heap) (a v : Option AV) : Res := match a with
  | some a => match v with
    | some v => os (storeE P t a v h)
    | none => .bad
  | none => .bad
def nilMeth (P : Program) (h : Heap) (name : String) (first cap : List AV) : Res := match first with
  | .iface t v :: rest => match methodE P t name with
    | some _ => .val (.func (.method name) (.iface t v :: rest) cap) h
    | none => .bad
  | _ => .bad
def sNil (P : Program) (h : Heap) (a : Option AV) : Res := match a with
  | some (.func (.method name) first cap) => nilMeth P h name first cap
  | some a => ov (nilCheckE a) h
  | none => .bad
def sBin (E : Env) (op : BinOp) (t : TypeId) (x y : Operand) (h : Heap) (a b : Option AV) : Res := match a with
  | some a => match b with
    | some b => bif guardOk E.P op t x y a b then ov (orF E (binE E.P op t a b) (.bin op) [a, b]) h else .bad
    | none => .bad
  | none => .bad
def sUn (E : Env) (op : UnOp) (h : Heap) (a : Option AV) : Res := match a with
  | some a => ov (orF E (unE op a) (.un op) [a]) h
  | none => .bad
def sConv (E : Env) (s d : TypeId) (h : Heap) (a : Option AV) : Res := match a with
  | some a => match convE E.P s d a h with
    | some r => .val r.1 r.2
    | none => match convA E.P s d a h with
      | some r => .choice [r]
      | none => ov (E.fact (.conv d) [a]) h
  | none => .bad
def sIface (P : Program) (t : TypeId) (h : Heap) (a : Option AV) : Res := match a with
  | some v => match P.underlying t with
    | some (.interface _) => .bad
    | some _ => .val (.iface t v) h
    | none => .bad
  | none => .bad
def sFunc (fn : Fn) (h : Heap) (a b : Option (List AV)) : Res := match a with
  | some a => match b with
    | some b => match fn with
      | .yield _ => .bad
      | fn => .val (.func fn a b) h
    | none => .bad
  | none => .bad
def sMap (P : Program) (t : TypeId) (h : Heap) (r : Option (Option AV)) : Res := match P.underlying t with
  | some (.map _ _) => match r with
    | some none => .val (.map h.next) (h.new (.map [] 0))
    | some (some (.int _ _)) => .val (.map h.next) (h.new (.map [] 0))
    | _ => .bad
  | _ => .bad
def sMakeSlice (P : Program) (t : TypeId) (h : Heap) (l c : Option AV) : Res := match l with
  | some l => match c with
    | some c => oh (makeSliceE P t l c h)
    | none => .bad
  | none => .bad
def sSlice (E : Env) (t : TypeId) (h : Heap) (x : Option AV) (lo hi mx : Option (Option AV)) : Res := match x with
  | some x => match lo with
    | some lo => match hi with
      | some hi => match mx with
        | some mx => bif hi.isNone && mx.isSome then .bad else ov (sliceE E.P t x lo hi mx h) h
        | none => .bad
      | none => .bad
    | none => .bad
  | none => .bad
def sField (P : Program) (t : TypeId) (f : Nat) (h : Heap) (a : Option AV) : Res := match a with
  | some a => ov (fieldE P t a f) h
  | none => .bad
def sFieldAddr (P : Program) (t : TypeId) (f : Nat) (h : Heap) (a : Option AV) : Res := match a with
  | some a => ov (fieldAddrE P t a f) h
  | none => .bad
def s2 (F : AV → AV → Option AV) (h : Heap) (a b : Option AV) : Res := match a with
  | some a => match b with
    | some b => ov (F a b) h
    | none => .bad
  | none => .bad
def s3h (F : AV → AV → AV → Option Heap) (a b c : Option AV) : Res := match a with
  | some a => match b with
    | some b => match c with
      | some c => os (F a b c)
      | none => .bad
    | none => .bad
  | none => .bad
def s2h (F : AV → AV → Option (AV × Heap)) (a b : Option AV) : Res := match a with
  | some a => match b with
    | some b => oh (F a b)
    | none => .bad
  | none => .bad
def s1h (F : AV → Option (AV × Heap)) (a : Option AV) : Res := match a with
  | some a => oh (F a)
  | none => .bad
def s1r (F : AV → Res) (a : Option AV) : Res := match a with
  | some a => F a
  | none => .bad
def s1 (F : AV → Option AV) (h : Heap) (a : Option AV) : Res := match a with
  | some a => ov (F a) h
  | none => .bad
def extractE (i : Nat) (x : AV) : Option AV := match x with
  | .tup vs => vs[i]?
  | _ => none
def sBuiltin (E : Env) (b : Builtin) (ts : Array TypeId) (h : Heap) (args : List AV) : Res := match builtinE E.P b ts args h with
  | some r => .val r.1 r.2
  | none => match b with
    | .len => ov (E.fact .len args) h
    | .max => ov (E.fact .max args) h
    | .min => ov (E.fact .min args) h
    | _ => .bad
def sCall (E : Env) (ρ : Operand → Option AV) (c : Call) (h : Heap) (args : Option (List AV)) : Res := match args with
  | none => .bad
  | some args => match c.callee with
    | .builtin b => sBuiltin E b c.argTypes h args
    | .invoke rc name => s1r (fun v => callMeth E name [v] args h) (ρ rc)
    | .value f => s1r (fun f => callVal E f args h) (ρ f)
def deferE (args : List AV) (f : AV) : Res := match f with
  | .func (.func g) first cap => .defer (.fn g cap (first ++ args))
  | _ => .bad
def sDefer (ρ : Operand → Option AV) (c : Call) (args : Option (List AV)) : Res := match args with
  | none => .bad
  | some args => match c.callee with
    | .value f => s1r (deferE args) (ρ f)
    | _ => .bad
def stepC (E : Env) (ρ : Operand → Option AV) (o : Oper) (h : Heap) : Res :=
  match o.op with
  | .move x => ov (ρ x) h
  | .assign x => ov (ρ x) h
  | .pick c a b => sPick ρ a b h (ρ c)
  | .alloc e => sNew e h (zeroOf E.P e)
  | .box e x => sNew e h (ρ x)
  | .build t ps => sBuild E.P t h (evps ρ ps.toList)
  | .buildSlice t n ps => sBuildSlice E.P t n h (evps ρ ps.toList)
  | .load t a => sLoad E.P t h (ρ a)
  | .store t a x => sStore E.P t h (ρ a) (ρ x)
  | .nilCheck x => sNil E.P h (ρ x)
  | .binOp op t x y _ => sBin E op t x y h (ρ x) (ρ y)
  | .unOp op _ x => sUn E op h (ρ x)
  | .convert s d x => sConv E s d h (ρ x)
  | .makeInterface t x => sIface E.P t h (ρ x)
  | .makeFunc fn first cap => sFunc fn h (evs ρ first.toList) (evs ρ cap.toList)
  | .makeMap t r => sMap E.P t h (evo ρ r)
  | .makeSlice t l c => sMakeSlice E.P t h (ρ l) (ρ c)
  | .slice t x lo hi mx => sSlice E t h (ρ x) (evo ρ lo) (evo ρ hi) (evo ρ mx)
  | .fieldAddr s x f => sFieldAddr E.P s f h (ρ x)
  | .field t x f => sField E.P t f h (ρ x)
  | .indexAddr t x i => s2 (indexAddrE E.P t) h (ρ x) (ρ i)
  | .index t x i => s2 (indexE E.P t) h (ρ x) (ρ i)
  | .lookup t x i ok => s2 (fun a i => lookupE E.P t a i ok h) h (ρ x) (ρ i)
  | .mapUpdate t m k x => s3h (fun m k v => mapUpdateE E.P t m k v h) (ρ m) (ρ k) (ρ x)
  | .insert t m k x => s3h (fun m k v => mapUpdateE E.P t m k v h) (ρ m) (ρ k) (ρ x)
  | .mapEntry t m k => s2h (fun m k => mapEntryE E.P t m k h) (ρ m) (ρ k)
  | .entryStore _ m s x => s3h (fun m s v => entryStoreE m s v h) (ρ m) (ρ s) (ρ x)
  | .range t x => s1h (fun a => rangeE E.P t a h) (ρ x)
  | .next it s => s1r (fun a => nextE a s h) (ρ it)
  | .entry it => s1 (fun a => entryE a h) h (ρ it)
  | .typeAssert x _ t ok => s1 (fun a => typeAssertE E.P a t ok) h (ρ x)
  | .extract t i => s1 (extractE i) h (ρ t)
  | .call c => sCall E ρ c h (evs ρ c.args.toList)
  | .defer c => sDefer ρ c (evs ρ c.args.toList)
  | _ => .bad

/-! Operations on symbols. -/
def symI : AV → Option (IntKind × SX)
  | .int k n => some (k, .ci n)
  | .oint k e => some (k, e)
  | _ => none
def symS : AV → Option SX
  | .str l => some (.cs l)
  | .ostr e => some e
  | _ => none
def symB : AV → Option SX
  | .bool b => some (.cb b)
  | .obool e => some e
  | _ => none
def yInt (op : BinOp) (k k' : IntKind) (a b : SX) (h : Heap) : Res := match op with
  | .shl => .need (.op (.cmp .leq) [.ci 0, b]) (.oint k (.op (.ar .shl k) [a, b])) h
  | .shr => .need (.op (.cmp .leq) [.ci 0, b]) (.oint k (.op (.ar .shr k) [a, b])) h
  | .quo => if k = k' then .need (.op (.cmp .neq) [b, .ci 0]) (.oint k (.op (.ar .quo k) [a, b])) h else .bad
  | .rem => if k = k' then .need (.op (.cmp .neq) [b, .ci 0]) (.oint k (.op (.ar .rem k) [a, b])) h else .bad
  | .add | .sub | .mul | .and | .or | .xor | .andNot => if k = k' then .val (.oint k (.op (.ar op k) [a, b])) h else .bad
  | .eql | .neq | .lss | .leq | .gtr | .geq => if k = k' then .val (.obool (.op (.cmp op) [a, b])) h else .bad
def limI : Int := 4294967296
def sumL (a b : SX) : SX := .op .iadd [a, b]
def yStr (op : BinOp) (a b : SX) (h : Heap) : Res := match op with
  | .eql | .neq | .lss | .leq | .gtr | .geq => .val (.obool (.op (.scmp op) [a, b])) h
  | .add => .need (.op (.cmp .lss) [sumL (.op .slen [a]) (.op .slen [b]), .ci limI]) (.ostr (.op .cat [a, b])) h
  | _ => .bad
def boolT (P : Program) (t : TypeId) : Bool := match P.underlying t with
  | some .bool => true
  | _ => false
def yBool (P : Program) (op : BinOp) (t : TypeId) (a b : SX) (h : Heap) : Res := match op with
  | .eql => bif boolT P t then .val (.obool (.op .beq [a, b])) h else .bad
  | .neq => bif boolT P t then .val (.obool (.op .not [.op .beq [a, b]])) h else .bad
  | _ => .bad
/-- '==' on values of symbols. -/
def andS (a b : SX) : SX := match a with
  | .cb true => b
  | _ => match b with
    | .cb true => a
    | _ => .op .and [a, b]
def eqFieldsS (P : Program) (ih : TypeId → AV → AV → Option SX) (xs ys : List AV) : List Field → Option SX
  | [] => some (.cb true)
  | f :: r => bif f.name == "_" then eqFieldsS P ih xs ys r else match partE P f.type xs f.offset, partE P f.type ys f.offset with
    | some a, some b => match ih f.type a b with
      | some e => match eqFieldsS P ih xs ys r with
        | some e' => some (andS e e')
        | none => none
      | none => none
    | _, _ => none
def eqIntS (k k' : IntKind) (a b : SX) : Option SX := if k = k' then some (.op (.cmp .eql) [a, b]) else none
def eqStepS (P : Program) (ih : TypeId → AV → AV → Option SX) (t : TypeId) (x y : AV) : Option SX :=
  match P.underlying t with
  | some .bool => match symB x, symB y with
    | some a, some b => some (.op .beq [a, b])
    | _, _ => none
  | some (.int _) => match symI x, symI y with
    | some (k, a), some (k', b) => eqIntS k k' a b
    | _, _ => none
  | some .string => match symS x, symS y with
    | some a, some b => some (.op (.scmp .eql) [a, b])
    | _, _ => none
  | some (.struct fields) => match x, y with
    | .agg xs, .agg ys => bif P.stoodInHeld t then none else eqFieldsS P ih xs ys fields.toList
    | _, _ => none
  | _ => none
def eqSNo (_ : TypeId) (_ _ : AV) : Option SX := none
def eqS (P : Program) (n : Nat) : TypeId → AV → AV → Option SX := Nat.rec (motive := fun _ => TypeId → AV → AV → Option SX) eqSNo (fun _ => eqStepS P) n
def yAgg (P : Program) (op : BinOp) (t : TypeId) (x y : AV) (h : Heap) : Res := match x with
  | .agg cs => match eqS P 10000 t (.agg cs) y with
    | some e => match op with
      | .eql => .val (.obool e) h
      | .neq => .val (.obool (.op .not [e])) h
      | _ => .bad
    | none => .bad
  | _ => .bad
def yBin (P : Program) (op : BinOp) (t : TypeId) (x y : AV) (h : Heap) : Res :=
  match symI x, symI y with
  | some (k, a), some (k', b) => yInt op k k' a b h
  | _, _ => match symS x, symS y with
    | some a, some b => yStr op a b h
    | _, _ => match symB x, symB y with
      | some a, some b => yBool P op t a b h
      | _, _ => yAgg P op t x y h
def yBin2 (P : Program) (op : BinOp) (t : TypeId) (x y : Operand) (h : Heap) (a b : Option AV) : Res := match a with
  | some a => match b with
    | some b => bif guardOk P op t x y a b then yBin P op t a b h else .bad
    | none => .bad
  | none => .bad
def yUn (op : UnOp) (h : Heap) (a : Option AV) : Res := match a with
  | some (.obool e) => match op with
    | .not => .val (.obool (.op .not [e])) h
    | _ => .bad
  | some (.oint k e) => match op with
    | .neg => .val (.oint k (.op (.un .neg k) [e])) h
    | .xor => .val (.oint k (.op (.un .xor k) [e])) h
    | _ => .bad
  | _ => .bad
def yConv (P : Program) (s d : TypeId) (h : Heap) (a : Option AV) : Res := match P.underlying s, P.underlying d with
  | some _, some (.int k) => match a with
    | some (.oint _ e) => .val (.oint k (.op (.conv k) [e])) h
    | _ => .bad
  | some _, some .string => match a with
    | some (.ostr e) => .val (.ostr e) h
    | _ => .bad
  | _, _ => .bad
def iteB (e x y : SX) : SX := match x, y with
  | .cb true, .cb false => e
  | .cb false, .cb true => .op .not [e]
  | x, y => .op .ite [e, x, y]
def yPickS (h : Heap) (e : SX) (a b : Option AV) : Res := match a.bind symB, b.bind symB with
  | some x, some y => .val (.obool (iteB e x y)) h
  | _, _ => .bad
/-- An operand that was not run leaves the other one. -/
def yPickV (h : Heap) (e : SX) (a b : Option AV) : Res := match a, b with
  | some (.tup []), some y => .need (.op .not [e]) y h
  | some x, some (.tup []) => .need e x h
  | a, b => yPickS h e a b
def yPick (h : Heap) (c a b : Option AV) : Res := match c with
  | some (.obool e) => yPickV h e a b
  | _ => .bad
/-- A symbol at a cell. -/
def leafE (c : CT) (e : SX) : AV := match c with
  | .int k => .oint k e
  | .str => .ostr e
  | .bool => .obool e
def leafs (sig : List CT) (l idx : SX) : Nat → Nat → List AV
  | _, 0 => []
  | j, n + 1 => leafE (sig.getD j .bool) (.op .lget [l, idx, .ci j]) :: leafs sig l idx (j + 1) n
def unleaf (c : CT) (v : AV) : Option SX := match c with
  | .int k => match symI v with
    | some (k', e) => if k = k' then some e else none
    | none => none
  | .str => symS v
  | .bool => symB v
def unleafs : List CT → List AV → Option (List SX)
  | [], [] => some []
  | c :: cs, v :: vs => match unleaf c v, unleafs cs vs with
    | some e, some es => some (e :: es)
    | _, _ => none
  | _, _ => none
def idxIn (idx len : SX) : SX := .op .and [.op (.cmp .leq) [.ci 0, idx], .op (.cmp .lss) [idx, len]]
def yLoad (P : Program) (t : TypeId) (h : Heap) (a : Option AV) : Res := match a with
  | some (.optr b idx j sz) => match h.get b with
    | some (.arr _ sig l) => match aggT P t, szOf P t with
      | some true, some n => bif Nat.beq sig.length sz && Nat.ble (j + n) sz then .need (idxIn idx (.op .llen [l])) (.agg (leafs sig l idx j n)) h else .bad
      | some false, some _ => bif Nat.beq sig.length sz && Nat.blt j sz then .need (idxIn idx (.op .llen [l])) (leafE (sig.getD j .bool) (.op .lget [l, idx, .ci j])) h else .bad
      | _, _ => .bad
    | _ => .bad
  | _ => .bad
def yIndexAddr (P : Program) (t : TypeId) (h : Heap) (x i : Option AV) : Res := match P.underlying t with
  | some (.slice elem) => match szOf P elem with
    | some s => match i.bind symI with
      | some (_, i) => match x with
        | some (.osl b off len sz) => bif Nat.beq s sz then .need (.op .and [.op (.cmp .leq) [.ci 0, off], idxIn i len]) (.optr b (sumL off i) 0 sz) h else .bad
        | some (.ous b len sz) => bif Nat.beq s sz then .need (idxIn i len) (.optr b i 0 sz) h else .bad
        | _ => .bad
      | none => .bad
    | none => .bad
  | _ => .bad
def yFieldAddr (P : Program) (s : TypeId) (f : Nat) (h : Heap) (a : Option AV) : Res := match P.underlying s, a with
  | some (.struct fields), some (.optr b idx j sz) => match fields[f]? with
    | some f => match szOf P f.type with
      | some (_ + 1) => .val (.optr b idx (j + f.offset) sz) h
      | _ => .bad
    | none => .bad
  | _, _ => .bad
def yIndex (P : Program) (t : TypeId) (h : Heap) (x i : Option AV) : Res := match P.underlying t, x.bind symS, i.bind symI with
  | some .string, some s, some (_, i) => .need (idxIn i (.op .slen [s])) (.oint .u8 (.op .sat [s, i])) h
  | _, _, _ => .bad
def yLen (P : Program) (t : Option TypeDesc) (h : Heap) (x : AV) : Res := match t with
  | some .string => match x with
    | .ostr e => .val (.oint .i64 (.op .slen [e])) h
    | _ => .bad
  | some (.slice _) => match x with
    | .osl _ _ len _ => .need (.op (.cmp .leq) [.ci 0, len]) (.oint .i64 len) h
    | .ous _ len _ => .need (.op (.cmp .leq) [.ci 0, len]) (.oint .i64 len) h
    | _ => .bad
  | _ => .bad
def yMM (b : Builtin) (x y : AV) (h : Heap) : Res := match symI x, symI y with
  | some (k, a), some (_, c) => match b with
    | .max => .val (.oint k (.op .imax [a, c])) h
    | .min => .val (.oint k (.op .imin [a, c])) h
    | _ => .bad
  | _, _ => .bad
/-- What is appended, as rows. -/
def ctOf : AV → Option CT
  | .int k _ => some (.int k)
  | .oint k _ => some (.int k)
  | .str _ => some .str
  | .ostr _ => some .str
  | .bool _ => some .bool
  | .obool _ => some .bool
  | _ => none
def ctsOf : List AV → Option (List CT)
  | [] => some []
  | a :: r => match ctOf a, ctsOf r with
    | some c, some cs => some (c :: cs)
    | _, _ => none
def rowsC (sig : List CT) (sz : Nat) : Nat → List AV → Option (List SX)
  | 0, _ => some []
  | n + 1, cs => match unleafs sig (cs.take sz), rowsC sig sz n (cs.drop sz) with
    | some e, some r => some (.op .row e :: r)
    | _, _ => none
def sigBeq : List CT → List CT → Bool
  | [], [] => true
  | a :: x, b :: y => decide (a = b) && sigBeq x y
  | _, _ => false
def yRows (sz : Nat) (y : AV) (h : Heap) : Option (List CT × SX × SX) := match y with
  | .ous b len s => match h.get b with
    | some (.arr _ sig l) => bif Nat.beq s sz && Nat.beq sig.length sz then some (sig, .op (.cmp .eql) [len, .op .llen [l]], l) else none
    | _ => none
  | .osl b off len s => match h.get b with
    | some (.arr _ sig l) => bif Nat.beq s sz && Nat.beq sig.length sz then some (sig, .op .and [.op (.cmp .leq) [.ci 0, off], .op .and [.op (.cmp .leq) [.ci 0, len], .op (.cmp .leq) [.op .iadd [off, len], .op .llen [l]]]], .op .lsub [l, off, .op .iadd [off, len]]) else none
    | _ => none
  | .sl b o n _ => match h.get b with
    | some (.cells _ _ cs) => bif Nat.ble (o + n * sz) cs.length && Nat.blt 0 n then (match ctsOf ((cs.drop o).take sz) with
      | some sig => match rowsC sig sz n ((cs.drop o).take (n * sz)) with
        | some rs => some (sig, .cb true, .op .row rs)
        | none => none
      | none => none) else none
    | _ => none
  | _ => none
def roomI : Int := 1000000
def yApp (elem s : Nat) (sig : List CT) (nd ly : SX) (x : AV) (h : Heap) : Res := match x with
  | .nils => .need (.op .and [nd, .op (.cmp .leq) [.op .llen [ly], .ci roomI]]) (.ous h.next (.op .llen [ly]) s) (h.new (.arr elem sig ly))
  | .ous b len sz => match h.get b with
    | some (.arr e sig' l) => bif Nat.beq sz s && Nat.beq e elem && sigBeq sig' sig && Nat.ble h.wm b then
        .need (.op .and [nd, .op .and [.op (.cmp .eql) [len, .op .llen [l]], .op (.cmp .leq) [.op .llen [.op .lcat [l, ly]], .ci roomI]]]) (.ous h.next (.op .llen [.op .lcat [l, ly]]) s) ((h.put b none).new (.arr elem sig (.op .lcat [l, ly]))) else .bad
    | _ => .bad
  | _ => .bad
def yAppend (P : Program) (ts : Array TypeId) (x y : AV) (h : Heap) : Res := match (ts[0]?).bind P.underlying, ts[1]? with
  | some (.slice elem), some yt => match P.underlying yt with
    | some (.slice _) => match P.info? elem, zeroOf P elem with
      | some i, some z => match yRows i.size y h with
        | some (sig, nd, ly) => bif Nat.blt 0 i.size && Nat.beq z.cells.length i.size && Nat.ble i.bytes 1000 && Nat.beq ts.size 2 && Nat.beq sig.length i.size && Nat.blt h.next 65536 && !(fixT P elem) then yApp elem i.size sig nd ly x h else .bad
        | none => .bad
      | _, _ => .bad
    | _ => .bad
  | _, _ => .bad
def yBuiltin (P : Program) (b : Builtin) (ts : Array TypeId) (h : Heap) (args : Option (List AV)) : Res := match args with
  | some [x] => match b with
    | .len => yLen P ((ts[0]?).bind P.underlying) h x
    | _ => .bad
  | some [x, y] => match b with
    | .append => yAppend P ts x y h
    | _ => yMM b x y h
  | _ => .bad
def yCall (P : Program) (ρ : Operand → Option AV) (c : Call) (h : Heap) : Res := match c.callee with
  | .builtin b => yBuiltin P b c.argTypes h (evs ρ c.args.toList)
  | _ => .bad
def stepY (E : Env) (ρ : Operand → Option AV) (o : Oper) (h : Heap) : Res :=
  match o.op with
  | .binOp op t x y _ => yBin2 E.P op t x y h (ρ x) (ρ y)
  | .unOp op _ x => yUn op h (ρ x)
  | .convert s d x => yConv E.P s d h (ρ x)
  | .pick c a b => yPick h (ρ c) (ρ a) (ρ b)
  | .load t a => yLoad E.P t h (ρ a)
  | .indexAddr t x i => yIndexAddr E.P t h (ρ x) (ρ i)
  | .fieldAddr s x f => yFieldAddr E.P s f h (ρ x)
  | .index t x i => yIndex E.P t h (ρ x) (ρ i)
  | .call c => yCall E.P ρ c h
  | _ => .bad
def stepR (r : Res) (s : Res) : Res := match r with
  | .bad => s
  | r => r
def stepOp (E : Env) (ρ : Operand → Option AV) (o : Oper) (h : Heap) : Res := stepR (stepC E ρ o h) (stepY E ρ o h)

/-! Regions that draw their order -/
def isFloat (o : Oper) : Bool :=
  match o.op with
  | .move _ | .pick .. | .alloc _ | .box .. | .build .. | .buildSlice .. | .load .. | .nilCheck _ | .binOp .. | .unOp .. | .makeInterface .. | .makeFunc ..
  | .makeMap .. | .makeSlice .. | .slice .. | .fieldAddr .. | .field .. | .indexAddr .. | .index .. | .lookup .. | .extract .. | .convert .. | .typeAssert .. => true
  | .call { callee := .builtin .len, .. } | .call { callee := .builtin .cap, .. } | .call { callee := .builtin .min, .. } | .call { callee := .builtin .max, .. } => true
  | _ => false
def isAlloc (o : Oper) : Bool :=
  match o.op with
  | .alloc _ | .box .. | .buildSlice .. | .makeMap .. | .makeSlice .. => true
  | _ => false

def binding (e : Edge) : Bool := match e.ground with
  | .textOnly _ | .gcOnly _ => false
  | _ => true
/-- For each operation the mask of those that come ahead of it; none: an edge leads forward. -/
def maskOf (acc : List Nat) : List Edge → Nat
  | [] => 0
  | e :: r => bif binding e then (2 ^ e.on ||| acc.getD e.on 0) ||| maskOf acc r else maskOf acc r
def masks : List Oper → List Nat → Option (List Nat)
  | [], acc => some acc
  | o :: r, acc => bif o.after.toList.all (fun e => !binding e || Nat.blt e.on acc.length) then masks r (acc ++ [maskOf acc o.after.toList]) else none
def slotOf : Operand → List Nat
  | .tmp t => [t]
  | _ => []
def readsOf (ops : List Oper) (o : Oper) : List Nat :=
  o.op.operands.toList.flatMap slotOf ++ (match o.guard with
    | some (j, _) => match ops[j]? with
      | some g => g.dst.toList
      | none => []
    | none => [])
structure PO where
  i : Nat
  o : Oper
  m : Nat
  fl : Bool
def zipPO : List Oper → List Nat → Nat → List PO
  | o :: r, m :: ms, i => ⟨i, o, m, isFloat o⟩ :: zipPO r ms (i + 1)
  | _, _, _ => []
/-- All floating operations that are ready, in the order of the text; again, till none is. -/
def pull (done : Nat) : List PO → List PO × List PO × Nat
  | [] => ([], [], done)
  | x :: r => bif x.fl && Nat.beq (x.m &&& done) x.m then
      let (a, b, d) := pull (done ||| 2 ^ x.i) r
      (x :: a, b, d)
    else
      let (a, b, d) := pull done r
      (a, x :: b, d)
def order : Nat → Nat → List PO → List PO
  | 0, _, l => l
  | f + 1, done, l =>
    match pull done l with
    | (a, b, d) => match b.find? (fun x => !x.fl) with
      | none => a ++ b
      | some c => a ++ c :: order f (d ||| 2 ^ c.i) (b.filter fun x => !(Nat.beq x.i c.i))
def dstIs (o : Oper) (t : Nat) : Bool := match o.dst with
  | some d => Nat.beq d t
  | none => false
def slotsOk (ops : List Oper) (l : List PO) : Bool :=
  l.all fun x => ((readsOf ops x.o).all fun t => l.all fun y => !(dstIs y.o t) || x.m.testBit y.i || (!y.fl && y.m.testBit x.i)) &&
    (match x.o.dst with
    | none => true
    | some d => l.all fun y => !(dstIs y.o d) || Nat.beq x.i y.i)
def chainOk (l : List PO) : Bool :=
  l.all fun x => x.fl || l.all fun y => y.fl || !(Nat.blt y.i x.i) || x.m.testBit y.i
def eager : Nat → List PO → Bool
  | _, [] => true
  | done, x :: r => Nat.beq (x.m &&& done) x.m && !(done.testBit x.i) && (x.fl || r.all (fun y => !y.fl || !(Nat.beq (y.m &&& done) y.m))) && eager (done ||| 2 ^ x.i) r
def planR (ops : List Oper) (l : List PO) : List PO := (order (ops.length + 1) 0 l).filterMap fun y => l[y.i]?
def plan (ops : List Oper) : Option (List PO) :=
  match masks ops [] with
  | none => none
  | some ms => bif slotsOk ops (zipPO ops ms 0) && chainOk (zipPO ops ms 0) && eager 0 (planR ops (zipPO ops ms 0)) &&
      (zipPO ops ms 0).all (fun x => (planR ops (zipPO ops ms 0)).any fun y => Nat.beq x.i y.i) then some (planR ops (zipPO ops ms 0)) else none

/-! Equality of values -/
mutual
def AV.beq : AV → AV → Bool
  | .bool a, .bool b => a == b
  | .int k a, .int k' b => decide (k = k') && ieqb a b
  | .str a, .str b => beqB a b
  | .nilp, .nilp | .nils, .nils | .es0, .es0 | .nilm, .nilm | .nilf, .nilf | .nili, .nili => true
  | .ptr a b, .ptr c d => Nat.beq a c && Nat.beq b d
  | .glob a, .glob b | .map a, .map b | .opq a, .opq b => Nat.beq a b
  | .ostr a, .ostr b | .obool a, .obool b => SX.beq a b
  | .osl a b c d, .osl a' b' c' d' => Nat.beq a a' && SX.beq b b' && SX.beq c c' && Nat.beq d d'
  | .optr a b c d, .optr a' b' c' d' => Nat.beq a a' && SX.beq b b' && Nat.beq c c' && Nat.beq d d'
  | .ous a b c, .ous a' b' c' => Nat.beq a a' && SX.beq b b' && Nat.beq c c'
  | .any, .any => true
  | .atl a, .atl b => Nat.beq a b
  | .oint k a, .oint k' b => decide (k = k') && SX.beq a b
  | .es a b c, .es a' b' c' => Nat.beq a a' && Nat.beq b b' && Nat.beq c c'
  | .sl a b c d, .sl a' b' c' d' => Nat.beq a a' && Nat.beq b b' && Nat.beq c c' && Nat.beq d d'
  | .us a b c d, .us a' b' c' d' => Nat.beq a a' && Nat.beq b b' && Nat.beq c c' && Nat.beq d d'
  | .func f a b, .func g c d => decide (f = g) && AV.beqs a c && AV.beqs b d
  | .iface t v, .iface u w => Nat.beq t u && AV.beq v w
  | .agg a, .agg b | .tup a, .tup b => AV.beqs a b
  | _, _ => false
def AV.beqs : List AV → List AV → Bool
  | [], [] => true
  | a :: x, b :: y => AV.beq a b && AV.beqs x y
  | _, _ => false
end

/-! Patterns -/
mutual
def freshX (v0 : Nat) : SX → Bool
  | .va m => Nat.blt m v0
  | .op _ l => freshXs v0 l
  | .app _ l => freshXs v0 l
  | _ => true
def freshXs (v0 : Nat) : List SX → Bool
  | [] => true
  | a :: r => freshX v0 a && freshXs v0 r
end
mutual
/-- No symbol from v0 on, no block from nb on. -/
def okA (v0 nb : Nat) : AV → Bool
  | .bool _ | .int _ _ | .str _ | .nilp | .glob _ | .nils | .es0 | .nilm | .nilf | .nili | .opq _ | .atl _ | .any => true
  | .ptr b _ => Nat.blt b nb
  | .sl b _ _ _ => Nat.blt b nb
  | .us b _ _ _ => Nat.blt b nb
  | .es b _ _ => Nat.blt b nb
  | .map b => Nat.blt b nb
  | .yield b => Nat.blt b nb
  | .func _ x y => okAs v0 nb x && okAs v0 nb y
  | .iface _ v => okA v0 nb v
  | .agg l => okAs v0 nb l
  | .tup l => okAs v0 nb l
  | .oint _ e => freshX v0 e
  | .ostr e => freshX v0 e
  | .obool e => freshX v0 e
  | .osl b x y _ => Nat.blt b nb && freshX v0 x && freshX v0 y
  | .optr b x _ _ => Nat.blt b nb && freshX v0 x
  | .ous b x _ => Nat.blt b nb && freshX v0 x
def okAs (v0 nb : Nat) : List AV → Bool
  | [] => true
  | a :: r => okA v0 nb a && okAs v0 nb r
end
def plcOf (v0 : Nat) (e : SX) : Option Nat := match e with
  | .va m => bif Nat.ble v0 m then some (m - v0) else none
  | _ => none
def absX (v0 n : Nat) (p x : SX) : Option (List SX) := match plcOf v0 p with
  | some m => bif Nat.beq m n then some [x] else none
  | none => bif SX.beq p x && freshX v0 x then some [] else none
def absO (v0 n : Nat) (p : SX) (x : Option SX) : Option (List SX) := match x with
  | some x => absX v0 n p x
  | none => none
def absI (v0 n : Nat) (k : IntKind) (p : SX) (x : Option (IntKind × SX)) : Option (List SX) := match x with
  | some (k', x) => if k = k' then absX v0 n p x else none
  | none => none
mutual
def absA (v0 nb n : Nat) : AV → AV → Option (List SX)
  | .any, _ => some []
  | .oint k p, x => absI v0 n k p (symI x)
  | .ostr p, x => absO v0 n p (symS x)
  | .obool p, x => absO v0 n p (symB x)
  | .agg ps, .agg xs => absAs v0 nb n ps xs
  | p, x => bif AV.beq p x && okA v0 nb x then some [] else none
def absAs (v0 nb n : Nat) : List AV → List AV → Option (List SX)
  | [], [] => some []
  | p :: ps, x :: xs => match absA v0 nb n p x with
    | some e => match absAs v0 nb (n + e.length) ps xs with
      | some es => some (e ++ es)
      | none => none
    | none => none
  | _, _ => none
end
def entsOk (v0 nb : Nat) : List Ent → List Ent → Bool
  | [], [] => true
  | a :: x, b :: y => AV.beq a.key b.key && AV.beq a.val b.val && Nat.beq a.born b.born && okA v0 nb b.key && okA v0 nb b.val && entsOk v0 nb x y
  | _, _ => false
def absB (v0 nb n : Nat) (p x : Blk) : Option (List SX) := match p, x with
  | .cells e fz ps, .cells e' fz' xs => bif Nat.beq e e' && Nat.beq fz fz' && ps.all AV.oneA then absAs v0 nb n ps xs else none
  | .arr e sig p, .arr e' sig' x => bif Nat.beq e e' && sigBeq sig sig' then absX v0 n p x else none
  | .map es c, .map es' c' => bif entsOk v0 nb es es' && Nat.beq c c' then some [] else none
  | _, _ => none
def absOB (v0 nb n : Nat) (p x : Option Blk) : Option (List SX) := match p with
  | none => some []
  | some p => match x with
    | some x => absB v0 nb n p x
    | none => none
/-- The slots from t on, m of them. -/
def absSl (v0 nb : Nat) (aP a : Fr) : Nat → Nat → Nat → Option (List SX)
  | 0, _, _ => some []
  | m + 1, t, n => match absA v0 nb n (aP.slot t) (a.slot t) with
    | some e => match absSl v0 nb aP a m (t + 1) (n + e.length) with
      | some es => some (e ++ es)
      | none => none
    | none => none
def absHp (v0 nb : Nat) (hP h : Heap) : Nat → Nat → Nat → Option (List SX)
  | 0, _, _ => some []
  | m + 1, b, n => match absOB v0 nb n (hP.get b) (h.get b) with
    | some e => match absHp v0 nb hP h m (b + 1) (n + e.length) with
      | some es => some (e ++ es)
      | none => none
    | none => none
def Fr.nts (a : Fr) : Nat := a.nt
def plainFr (a : Fr) : Bool := a.ds.isEmpty && a.ro.isNone
def stMatch (v0 : Nat) (aP : Fr) (hP : Heap) (a : Fr) (h : Heap) : Option (List SX) :=
  bif plainFr aP && plainFr a && Nat.beq aP.nt a.nt && Nat.ble hP.next h.next && Nat.beq hP.wm h.wm then
    (match absSl v0 hP.next aP a aP.nt 0 0 with
    | some es => match absHp v0 hP.next hP h hP.next 0 es.length with
      | some fs => some (es ++ fs)
      | none => none
    | none => none)
  else none
/-- Patterns laid over a state. -/
def laySl (a : Fr) : List (Nat × AV) → Fr
  | [] => a
  | (t, v) :: r => laySl (a.put (some t) v) r
def layDead (a : Fr) : List Nat → Fr
  | [] => a
  | t :: r => layDead (a.put (some t) .any) r
def hnextS (n : Nat) (t : TH) (_ wm : Nat) : Heap := ⟨t, n, wm⟩
def Heap.upto (h : Heap) (n : Nat) : Heap := Heap.rec (hnextS n) h
def layHp (h : Heap) : List (Nat × Option Blk) → Heap
  | [] => h
  | (b, x) :: r => layHp (h.put b x) r
/-- A block that changes is held by a slot, or is new. -/
def heldBy (a : Fr) (b : Nat) : Nat → Bool
  | 0 => false
  | t + 1 => (match a.slot t with
    | .ptr b' _ => Nat.beq b b'
    | .map b' => Nat.beq b b'
    | _ => false) || heldBy a b t
def blksOk (a : Fr) (n0 : Nat) (next : Nat) (l : List (Nat × Option Blk)) : Bool := l.all fun p => Nat.blt p.1 next && (Nat.ble n0 p.1 || heldBy a p.1 a.nt)
def instX (v0 : Nat) (q : Nat → SX) (e : SX) : SX := match plcOf v0 e with
  | some m => q m
  | none => e
mutual
def instA (v0 : Nat) (q : Nat → SX) : AV → AV
  | .oint k e => .oint k (instX v0 q e)
  | .ostr e => .ostr (instX v0 q e)
  | .obool e => .obool (instX v0 q e)
  | .agg l => .agg (instAs v0 q l)
  | x => x
def instAs (v0 : Nat) (q : Nat → SX) : List AV → List AV
  | [] => []
  | a :: r => instA v0 q a :: instAs v0 q r
end
def instB (v0 : Nat) (q : Nat → SX) (x : Option Blk) : Option Blk := match x with
  | some (.cells e fz cs) => some (.cells e fz (instAs v0 q cs))
  | some (.arr e sig l) => some (.arr e sig (instX v0 q l))
  | x => x
def okB (v0 nb : Nat) : Option Blk → Bool
  | none => true
  | some (.cells _ _ cs) => okAs v0 nb cs
  | some (.arr _ _ l) => freshX v0 l
  | some (.map es _) => entsOk v0 nb es es
  | _ => false
def okFr (v0 nb : Nat) (a : Fr) : Nat → Bool
  | 0 => true
  | t + 1 => okA v0 nb (a.slot t) && okFr v0 nb a t
def okHp (v0 nb : Nat) (h : Heap) : Nat → Bool
  | 0 => true
  | t + 1 => okB v0 nb (h.get t) && okHp v0 nb h t
mutual
/-- Block b is not named. -/
def noB (b : Nat) : AV → Bool
  | .ptr c _ => !(Nat.beq c b)
  | .sl c _ _ _ => !(Nat.beq c b)
  | .us c _ _ _ => !(Nat.beq c b)
  | .es c _ _ => !(Nat.beq c b)
  | .map c => !(Nat.beq c b)
  | .yield c => !(Nat.beq c b)
  | .func _ x y => noBs b x && noBs b y
  | .iface _ v => noB b v
  | .agg l => noBs b l
  | .tup l => noBs b l
  | .osl c _ _ _ => !(Nat.beq c b)
  | .optr c _ _ _ => !(Nat.beq c b)
  | .ous c _ _ => !(Nat.beq c b)
  | _ => true
def noBs (b : Nat) : List AV → Bool
  | [] => true
  | a :: r => noB b a && noBs b r
end
def noBB (b : Nat) : Option Blk → Bool
  | none => true
  | some (.cells _ _ cs) => noBs b cs
  | some (.arr _ _ _) => true
  | some (.map es _) => es.all fun e => noB b e.key && noB b e.val
  | _ => false
def noFr (b t : Nat) (a : Fr) : Nat → Bool
  | 0 => a.ds.isEmpty
  | s + 1 => (Nat.beq s t || noB b (a.slot s)) && noFr b t a s
def noHp (b : Nat) (h : Heap) : Nat → Bool
  | 0 => true
  | s + 1 => noBB b (h.get s) && noHp b h s
def ownTo (o : OwnP) (a : Fr) (h : Heap) (l : SX) : Fr × Heap := (a.put (some o.slot) (.ous o.blk (.op .llen [l]) o.sig.length), h.put o.blk (some (.arr o.elem o.sig l)))
def conv1 (o : OwnP) (a : Fr) (h : Heap) : Option (Fr × Heap) :=
  match a.slot o.slot with
  | .ous r len sz => bif Nat.beq r o.blk then (match h.get r with
      | some (.arr e sig l) => bif Nat.beq e o.elem && sigBeq sig o.sig && Nat.beq sz sig.length then some (a, h) else none
      | _ => none)
    else bif Nat.blt o.slot a.nt && Nat.blt o.blk h.next && Nat.blt o.blk 65536 && (h.get o.blk).isNone && noFr o.blk o.slot a a.nt && noHp o.blk h h.next && Nat.ble h.wm r then (match h.get r with
      | some (.arr e sig l) => bif Nat.beq e o.elem && sigBeq sig o.sig && Nat.beq sz sig.length && SX.beq len (.op .llen [l]) then some (ownTo o a (h.put r none) l) else none
      | _ => none) else none
  | .nils => bif Nat.blt o.slot a.nt && Nat.blt o.blk h.next && Nat.blt o.blk 65536 && (h.get o.blk).isNone && noFr o.blk o.slot a a.nt && noHp o.blk h h.next then some (ownTo o a h (.op .row [])) else none
  | .us r 0 n sz => bif Nat.blt o.slot a.nt && Nat.blt o.blk h.next && Nat.blt o.blk 65536 && (h.get o.blk).isNone && noFr o.blk o.slot a a.nt && noHp o.blk h h.next && Nat.ble h.wm r && Nat.blt 0 sz then (match h.get r with
      | some (.cells e 0 cs) => bif Nat.beq e o.elem && Nat.beq sz o.sig.length && Nat.beq cs.length (n * sz) then (match rowsC o.sig sz n cs with
        | some rs => some (ownTo o a (h.put r none) (.op .row rs))
        | none => none) else none
      | _ => none) else none
  | _ => none
def convs : List OwnP → Fr → Heap → Option (Fr × Heap)
  | [], a, h => some (a, h)
  | o :: r, a, h => match conv1 o a h with
    | some p => convs r p.1 p.2
    | none => none
def exBeq : Ex → Ex → Bool
  | .norm, .norm => true
  | .ret, .ret => true
  | .exit a, .exit b => Nat.beq a b
  | _, _ => false

/-! The run -/

structure Pend where
  i : Nat
  o : Oper
  v : AV
  nd : Option SX

inductive Task (R : Type) where
  | code (c : Code) (a : Fr) (h : Heap) (k : Ex → Fr → Heap → R)
  | loop (c : Code) (a : Fr) (h : Heap) (k : Ex → Fr → Heap → R)
  | ops (all rest : List Oper) (a : Fr) (h : Heap) (k : Fr → Heap → R)
  | dops (all : List Oper) (rest : List PO) (pend : List Pend) (a : Fr) (h : Heap) (k : Fr → Heap → R)
  | call (f : FuncId) (args : List AV) (h : Heap) (k : AV → Heap → R)
  | body (f : FuncId) (args : List AV) (h : Heap) (k : AV → Heap → R)
  | dbody (f : FuncId) (args : List AV) (h : Heap) (k : AV → Heap → R)
  | leave (rs : List ResultVar) (a : Fr) (ds : List ADef) (h : Heap) (k : AV → Heap → R)

structure Alg (R : Type) where
  bad : R
  amb : List (AV × Heap) → (AV × Heap → R) → R
  ite : SX → R → R → R
  need : SX → R → R
  loop : LHd → VT → List R → R
def treeAlg : Alg VT := ⟨.bad, fun l f => match l with
  | [x] => f x
  | _ => .bad, .ite, .need, .loop⟩
def boolAlg : Alg Bool := ⟨false, fun l f => l.all f, fun _ x y => x && y, fun _ _ => false, fun _ _ _ => false⟩
def optAlg : Alg (Option (AV × Heap)) := ⟨none, fun l f => match l with
  | x :: _ => f x
  | [] => none, fun _ _ _ => none, fun _ _ => none, fun _ _ _ => none⟩

def wantedE (all : List Oper) (a : Fr) (o : Oper) : Option Bool :=
  match o.guard with
  | none => some true
  | some (j, want) => match (all[j]?).bind (·.dst) with
    | none => some false
    | some d => bif Nat.blt d a.nt then match a.slot d with
      | .bool b => some (b == want)
      | .obool e => match pcFind e a.pc with
        | some b => some (b == want)
        | none => none
      | .opq _ => none
      | .any => none
      | _ => some false
      else some false

/-- The symbol that a guard hangs on. -/
def wantS (all : List Oper) (a : Fr) (o : Oper) : Option SX :=
  match o.guard with
  | none => none
  | some (j, _) => match (all[j]?).bind (·.dst) with
    | none => none
    | some d => match a.slot d with
      | .obool e => some e
      | _ => none

def resE (P : Program) (a : Fr) (h : Heap) : ResultVar → Option AV
  | .tmp t => some (a.slot t)
  | .cell x t => loadE P t (a.slot x) h
def ressE (P : Program) (a : Fr) (h : Heap) : List ResultVar → Option (List AV)
  | [] => some []
  | r :: l => match resE P a h r, ressE P a h l with
    | some v, some vs => some (v :: vs)
    | _, _ => none
def tupOf : List AV → AV
  | [v] => v
  | vs => .tup vs

def putArgs : List AV → Nat → TF → TF
  | [], _, t => t
  | v :: r, i, t => putArgs r (i + 1) (t.set i v)

def ndIs (nd : Option SX) (e : SX) : Bool := match nd with
  | some x => SX.beq x e
  | none => false
def recheckR (r : Res) (nd : Option SX) (v : AV) : Bool := match r with
  | .val v' _ => AV.beq v' v
  | .need e v' _ => ndIs nd e && AV.beq v' v
  | _ => false
def recheck (E : Env) (a : Fr) (h : Heap) : List Pend → Bool
  | [] => true
  | p :: r => (isAlloc p.o || recheckR (stepOp E a.ev p.o h) p.nd p.v) && recheck E a h r

/-! What an ambiguous call hands back: plain values, and new rows of plain cells. -/
def plainCell : AV → Bool
  | .bool _ | .int _ _ | .str _ | .nilp | .nils | .nilm | .nilf | .nili => true
  | _ => false
inductive Out where
  | plain (v : AV)
  | row (elem : Nat) (len sz : Nat) (cs : List AV)
  deriving Inhabited
def outOf1 (wm : Nat) (h : Heap) (v : AV) : Option Out :=
  match v with
  | .us b 0 len sz => bif Nat.ble wm b then match h.get b with
    | some (.cells e 0 cs) => bif Nat.beq cs.length (len * sz) && cs.all plainCell then some (.row e len sz cs) else none
    | _ => none
    else none
  | v => bif plainCell v then some (.plain v) else none
def outsOf (wm : Nat) (h : Heap) : List AV → Option (List Out)
  | [] => some []
  | v :: r => match outOf1 wm h v, outsOf wm h r with
    | some o, some os => some (o :: os)
    | _, _ => none
def rowsN : List Out → Nat
  | [] => 0
  | .plain _ :: r => rowsN r
  | .row _ _ _ _ :: r => rowsN r + 1
def oneRow (b : Bool) (l : List Out) : Option (Bool × List Out) := bif Nat.ble (rowsN l) 1 then some (b, l) else none
def outOf (wm : Nat) (h : Heap) (v : AV) : Option (Bool × List Out) :=
  match v with
  | .tup vs => (outsOf wm h vs).bind (oneRow true)
  | v => (outsOf wm h [v]).bind (oneRow false)
def Out.beq : Out → Out → Bool
  | .plain a, .plain b => AV.beq a b
  | .row e l s c, .row e' l' s' c' => Nat.beq e e' && Nat.beq l l' && Nat.beq s s' && AV.beqs c c'
  | _, _ => false
def outsBeq : List Out → List Out → Bool
  | [], [] => true
  | a :: x, b :: y => Out.beq a b && outsBeq x y
  | _, _ => false
def outEq (x y : Option (Bool × List Out)) : Bool :=
  match x, y with
  | some (a, l), some (b, m) => (a == b) && outsBeq l m
  | _, _ => false
def layOuts : List Out → Heap → List AV × Heap
  | [], h => ([], h)
  | .plain v :: r, h => let (vs, h') := layOuts r h; (v :: vs, h')
  | .row e len sz cs :: r, h => let (vs, h') := layOuts r (h.new (.cells e 0 cs)); (.us h.next 0 len sz :: vs, h')
def layOut (b : Bool) (l : List Out) (h : Heap) : AV × Heap :=
  match layOuts l h with
  | (vs, h') => (bif b then .tup vs else vs.headD .undef, h')

/-! The steps. 'rec': the run with less fuel. -/
def hraise (t : TH) (next _ : Nat) : Heap := ⟨t, next, next⟩
def Heap.raise (h : Heap) : Heap := Heap.rec hraise h
abbrev Rec := (R : Type) → Alg R → Task R → R

section
variable {R : Type}
def kSeq (rec : Rec) (A : Alg R) (y : Code) (k : Ex → Fr → Heap → R) (e : Ex) (a : Fr) (h : Heap) : R := match e with
  | .norm => rec R A (.code y a h k)
  | e => k e a h
def kBlock (id : Nat) (k : Ex → Fr → Heap → R) (e : Ex) (a : Fr) (h : Heap) : R := match e with
  | .exit i => bif Nat.beq i id then k .norm a h else k (.exit i) a h
  | e => k e a h
def kLoop (rec : Rec) (A : Alg R) (c : Code) (k : Ex → Fr → Heap → R) (e : Ex) (a : Fr) (h : Heap) : R := match e with
  | .norm => rec R A (.loop c a h k)
  | e => k e a h
def kNorm (ro : Option Nat) (k : Ex → Fr → Heap → R) (a : Fr) (h : Heap) : R := k .norm (a.back ro) h
def cBranch (rec : Rec) (A : Alg R) (x y : Code) (a : Fr) (h : Heap) (k : Ex → Fr → Heap → R) (e : SX) (p : Option Bool) : R := match p with
  | some b => rec R A (.code (bif b then x else y) a h k)
  | none => A.ite e (rec R A (.code x (a.cond (e, true)) h k)) (rec R A (.code y (a.cond (e, false)) h k))
def cCond (rec : Rec) (A : Alg R) (x y : Code) (a : Fr) (h : Heap) (k : Ex → Fr → Heap → R) (v : Option AV) : R := match v with
  | some (.bool b) => rec R A (.code (bif b then x else y) a h k)
  | some (.obool e) => cBranch rec A x y a h k e (pcFind e a.pc)
  | _ => A.bad
/-! Loops that are told by a pattern. -/
def regionOf : Code → Nat
  | .region id _ _ => id
  | .seq x _ => regionOf x
  | .block _ b => regionOf b
  | .loop b => regionOf b
  | .scope b => regionOf b
  | _ => 0
structure LSt where
  a : Fr
  h : Heap
def projX (id : Nat) (args : List SX) (j : Nat) : SX := .op .lget [.app id args, .ci 1, .ci j]
def headSt (sp : LSpec) (a : Fr) (h : Heap) : LSt := ⟨(laySl (layDead a sp.dead) sp.head.slots).clear, layHp h sp.head.blks⟩
/-- What a way out starts from: all that the loop turns is struck. -/
def baseSt (sp : LSpec) (a : Fr) (h : Heap) : LSt := ⟨layDead (layDead a sp.dead) (sp.head.slots.map (·.1)), layHp h (sp.head.blks.map fun p => (p.1, none))⟩
def exitSt (sp : LSpec) (a : Fr) (h : Heap) (x : StP) : LSt := ⟨(laySl (baseSt sp a h).a x.slots).clear, (layHp (baseSt sp a h).h x.blks).upto x.next⟩
def outSt (sp : LSpec) (q : Nat → SX) (a : Fr) (h : Heap) (x : StP) : LSt :=
  ⟨laySl (baseSt sp a h).a (x.slots.map fun p => (p.1, instA sp.v0 q p.2)), (layHp (baseSt sp a h).h (x.blks.map fun p => (p.1, instB sp.v0 q p.2))).upto x.next⟩
def findEx (sp : LSpec) (a : Fr) (h : Heap) (e : Ex) (a' : Fr) (h' : Heap) : List (Ex × StP) → Nat → VT
  | [], _ => .bad
  | x :: r, i => bif exBeq x.1 e then (match stMatch sp.v0 (exitSt sp a h x.2).a (exitSt sp a h x.2).h a' h' with
    | some es => .ret (i + 1) es
    | none => findEx sp a h e a' h' r (i + 1)) else findEx sp a h e a' h' r (i + 1)
/-- A state made ready: what is dead is struck, and the rows of the loop's own get their names. -/
def prep (sp : LSpec) (a : Fr) (h : Heap) : Fr × Heap := match convs sp.owns (layDead a sp.dead) h with
  | some p => p
  | none => (layDead a sp.dead, h)
def kRoundN (sp : LSpec) (a : Fr) (h : Heap) (p : Fr × Heap) : VT := match stMatch sp.v0 (headSt sp a h).a (headSt sp a h).h p.1 p.2 with
  | some es => .ret 0 es
  | none => .bad
def kRoundX (sp : LSpec) (a : Fr) (h : Heap) (e : Ex) (p : Fr × Heap) : VT := findEx sp a h e p.1 p.2 sp.exits 0
def kRound (sp : LSpec) (a : Fr) (h : Heap) (e : Ex) (a' : Fr) (h' : Heap) : VT := match e with
  | .norm => kRoundN sp a h (prep sp a' h')
  | e => kRoundX sp a h e (prep sp a' h')
def spOk (sp : LSpec) (a : Fr) (h : Heap) (n0 : Nat) : Bool := sp.owns.all (fun o => Nat.ble n0 o.blk) && blksOk a n0 h.next sp.head.blks && sp.exits.all (fun x => Nat.ble h.next x.2.next && blksOk a n0 x.2.next x.2.blks) && freshXs sp.v0 sp.fv && plainFr a && okFr sp.v0 h.next (baseSt sp a h).a a.nt && okHp sp.v0 h.next (baseSt sp a h).h h.next
def evLoopT (rec : Rec) (A : Alg R) (c : Code) (n0 : Nat) (k : Ex → Fr → Heap → R) (sp : LSpec) (a : Fr) (h : Heap) : R :=
  bif spOk sp a h n0 then
    (match stMatch sp.v0 (headSt sp a h).a (headSt sp a h).h a h with
    | some s0 => A.loop ⟨sp.id, s0, sp.v0, sp.fv⟩ (rec VT treeAlg (.code c (headSt sp a h).a (headSt sp a h).h (kRound sp a h)))
        (sp.exits.map fun x => k x.1 (outSt sp (projX sp.id (s0 ++ sp.fv)) a h x.2).a (outSt sp (projX sp.id (s0 ++ sp.fv)) a h x.2).h)
    | none => A.bad)
  else A.bad
def evLoopP (rec : Rec) (A : Alg R) (c : Code) (n0 : Nat) (k : Ex → Fr → Heap → R) (sp : LSpec) (p : Fr × Heap) : R := evLoopT rec A c n0 k sp p.1 p.2
def evLoopS (rec : Rec) (A : Alg R) (c : Code) (a : Fr) (h : Heap) (k : Ex → Fr → Heap → R) (sp : LSpec) : R :=
  bif plainFr a then evLoopP rec A c h.next k sp (prep sp a (h.upto (Nat.add h.next sp.owns.length))) else A.bad
def cLoop (rec : Rec) (A : Alg R) (c : Code) (a : Fr) (h : Heap) (k : Ex → Fr → Heap → R) (sp : Option LSpec) : R := match sp with
  | some sp => evLoopS rec A c a h k sp
  | none => rec R A (.loop c a h k)
def cDraw (rec : Rec) (A : Alg R) (ops : List Oper) (a : Fr) (h : Heap) (k : Ex → Fr → Heap → R) (p : Option (List PO)) : R := match p with
  | some l => rec R A (.dops ops l [] a h (kNorm a.ro k))
  | none => A.bad
def cRegion (rec : Rec) (A : Alg R) (ops : List Oper) (draw : Bool) (a : Fr) (h : Heap) (k : Ex → Fr → Heap → R) : R :=
  bif draw then cDraw rec A ops a h k (plan ops) else rec R A (.ops ops ops a h (kNorm a.ro k))
/-! Ranges over functions. -/
def setLoop (h : Heap) (l : Nat) (b : Blk) : Heap := h.put l (some b)
def kJump (rec : Rec) (A : Alg R) (a : Fr) (k : Ex → Fr → Heap → R) (h : Heap) (pend : Option Code) : R := match pend with
  | none => k .norm a h
  | some c => rec R A (.code c a h k)
def kIdle (rec : Rec) (A : Alg R) (a : Fr) (k : Ex → Fr → Heap → R) (h : Heap) (pend : Option Code) (st : LoopState) : R := match st with
  | .busy => A.bad
  | .ready => kJump rec A a k h pend
  | .done => kJump rec A a k h pend
  | .exhausted => kJump rec A a k h pend
def kRange (rec : Rec) (A : Alg R) (l : Nat) (a : Fr) (k : Ex → Fr → Heap → R) (_ : AV) (h : Heap) : R := match h.get l with
  | some (.loop st pend fn tm nt ps assign body d) => bif Nat.ble h.wm l then kIdle rec A a k (h.put l (some (.loop .exhausted pend fn tm nt ps assign body d))) pend st else A.bad
  | _ => A.bad
def cRange2 (rec : Rec) (A : Alg R) (l : Nat) (a : Fr) (h : Heap) (k : Ex → Fr → Heap → R) (r : Res) : R := match r with
  | .enter g args => rec R A (.call g args h (kRange rec A l a k))
  | _ => A.bad
def around (h : Heap) (ro : Option Nat) : Option (Nat × Heap × List ADef) := match ro with
  | none => some (h.next, h.new (.defd false), [ADef.coll h.next])
  | some l => match h.get l with
    | some (.loop _ _ _ _ _ _ _ _ d) => some (d, h, [])
    | _ => none
def cRange (E : Env) (rec : Rec) (A : Alg R) (ps : Array Tmp) (assign body : Code) (a : Fr) (k : Ex → Fr → Heap → R) (x : Option (Nat × Heap × List ADef)) (f : Option AV) : R := match x with
  | some (d, h, mark) => match f with
    | some fv => cRange2 rec A h.next (a.mark mark) (h.new (.loop .ready none a.fn a.tm a.nt ps assign body d)) k
        (callVal E fv [.yield h.next] (h.new (.loop .ready none a.fn a.tm a.nt ps assign body d)))
    | none => A.bad
  | none => A.bad
def evCode (E : Env) (rec : Rec) (A : Alg R) (c : Code) (a : Fr) (h : Heap) (k : Ex → Fr → Heap → R) : R := match c with
  | .skip => k .norm a h
  | .label _ => k .norm a h
  | .ret => k .ret a h
  | .exit id => k (.exit id) a h
  | .seq x y => rec R A (.code x a h (kSeq rec A y k))
  | .cond c x y => cCond rec A x y a h k (a.ev c)
  | .block id b => rec R A (.code b a h (kBlock id k))
  | .loop b => cLoop rec A b a h k (E.lspec a.fn (regionOf b))
  | .scope b => rec R A (.code b a h k)
  | .region _ ops draw => cRegion rec A ops.toList draw a h k
  | .rangeFunc f ps assign body => cRange E rec A ps assign body a k (around h a.ro) (a.ev f)
  | _ => A.bad
def jumpOf : Ex → Option Code
  | .norm => none
  | .ret => some .ret
  | .exit id => some (.exit id)
def stateOf : Option Code → LoopState
  | none => .ready
  | some _ => .done
def kRound2 (A : Alg R) (l : Nat) (k : AV → Heap → R) (e : Ex) (a : Fr) (h : Heap) : R := match a.ds with
  | [] => match h.get l with
    | some (.loop _ _ fn tm nt ps as body d) => k (.bool (jumpOf e).isNone) (h.put l (some (.loop (stateOf (jumpOf e)) (jumpOf e) fn tm nt ps as body d)))
    | _ => A.bad
  | _ => A.bad
def kRound1 (rec : Rec) (A : Alg R) (l : Nat) (body : Code) (k : AV → Heap → R) (e : Ex) (a : Fr) (h : Heap) : R := match e with
  | .norm => match h.get l with
    | some (.loop .ready pend fn tm nt ps as b d) => rec R A (.code body a (h.put l (some (.loop .busy pend fn tm nt ps as b d))) (kRound2 A l k))
    | _ => A.bad
  | _ => A.bad
def putPs : List Tmp → List AV → Nat → TF → TF
  | p :: ps, v :: vs, nt, t => putPs ps vs nt (bif Nat.blt p nt then t.set p v else t)
  | _, _, _, t => t
def gYield (rec : Rec) (A : Alg R) (l : Nat) (args : List AV) (h : Heap) (k : AV → Heap → R) (b : Option Blk) : R := match b with
  | some (.loop _ _ fn tm nt ps assign body _) => bif Nat.beq args.length ps.size && Nat.ble h.wm l then
      rec R A (.code assign ⟨putPs ps.toList args nt tm, nt, [], fn, [], some l⟩ h (kRound1 rec A l body k)) else A.bad
  | _ => A.bad
def evGo (rec : Rec) (A : Alg R) (h : Heap) (k : AV → Heap → R) (r : Res) : R := match r with
  | .val v h => k v h
  | .need e v h => A.need e (k v h)
  | .enter f args => rec R A (.call f args h k)
  | .choice l => A.amb l fun x => k x.1 x.2
  | .yield l args => gYield rec A l args h k (h.get l)
  | .defer _ => A.bad
  | .bad => A.bad
def kOp (rec : Rec) (A : Alg R) (all rest : List Oper) (dst : Option Tmp) (a : Fr) (k : Fr → Heap → R) (v : AV) (h : Heap) : R := rec R A (.ops all rest (a.put dst v) h k)
def oBranch (rec : Rec) (A : Alg R) (all rest : List Oper) (a : Fr) (h : Heap) (k : Fr → Heap → R) (e : Option SX) : R := match e with
  | some e => A.ite e (rec R A (.ops all rest (a.cond (e, true)) h k)) (rec R A (.ops all rest (a.cond (e, false)) h k))
  | none => A.bad
def oGo (rec : Rec) (A : Alg R) (all rest : List Oper) (dst : Option Tmp) (a : Fr) (h : Heap) (k : Fr → Heap → R) (r : Res) : R := match r with
  | .defer d => match a.ro with
    | none => rec R A (.ops all rest ((a.mark [d]).put dst .undef) h k)
    | some _ => A.bad
  | r => evGo rec A h (kOp rec A all rest dst a k) r
def oWant (E : Env) (rec : Rec) (A : Alg R) (all rest : List Oper) (o : Oper) (a : Fr) (h : Heap) (k : Fr → Heap → R) (w : Option Bool) : R := match w with
  | some true => oGo rec A all rest o.dst a h k (stepOp E a.ev o h)
  | some false => rec R A (.ops all rest (a.put o.dst .undef) h k)
  | none => oBranch rec A all (o :: rest) a h k (wantS all a o)
def evOps (E : Env) (rec : Rec) (A : Alg R) (all rest : List Oper) (a : Fr) (h : Heap) (k : Fr → Heap → R) : R := match rest with
  | [] => k a h
  | o :: rest => oWant E rec A all rest o a h k (wantedE all a o)
def kDop (E : Env) (rec : Rec) (A : Alg R) (all : List Oper) (rest : List PO) (pend : List Pend) (dst : Option Tmp) (a : Fr) (k : Fr → Heap → R) (v : AV) (h : Heap) : R :=
  bif recheck E (a.put dst v) h pend then rec R A (.dops all rest pend (a.put dst v) h k) else A.bad
def dFloat (E : Env) (rec : Rec) (A : Alg R) (all : List Oper) (x : PO) (rest : List PO) (pend : List Pend) (a : Fr) (k : Fr → Heap → R) (r : Res) : R := match r with
  | .val v h => bif !(isAlloc x.o) || recheck E (a.put x.o.dst v) h pend then rec R A (.dops all rest (⟨x.i, x.o, v, none⟩ :: pend) (a.put x.o.dst v) h k) else A.bad
  | .need e v h => bif !(isAlloc x.o) then A.need e (rec R A (.dops all rest (⟨x.i, x.o, v, some e⟩ :: pend) (a.put x.o.dst v) h k)) else A.bad
  | _ => A.bad
def dBranch (rec : Rec) (A : Alg R) (all : List Oper) (rest : List PO) (pend : List Pend) (a : Fr) (h : Heap) (k : Fr → Heap → R) (e : Option SX) : R := match e with
  | some e => A.ite e (rec R A (.dops all rest pend (a.cond (e, true)) h k)) (rec R A (.dops all rest pend (a.cond (e, false)) h k))
  | none => A.bad
def dWant (E : Env) (rec : Rec) (A : Alg R) (all : List Oper) (x : PO) (rest : List PO) (pend : List Pend) (a : Fr) (h : Heap) (k : Fr → Heap → R) (w : Option Bool) : R := match w with
  | some true => bif x.fl then dFloat E rec A all x rest pend a k (stepOp E a.ev x.o h)
    else evGo rec A h (kDop E rec A all rest (pend.filter fun p => !(x.m.testBit p.i)) x.o.dst a k) (stepOp E a.ev x.o h)
  | some false => rec R A (.dops all rest pend (a.put x.o.dst .undef) h k)
  | none => dBranch rec A all (x :: rest) pend a h k (wantS all a x.o)
def evDops (E : Env) (rec : Rec) (A : Alg R) (all : List Oper) (rest : List PO) (pend : List Pend) (a : Fr) (h : Heap) (k : Fr → Heap → R) : R := match rest with
  | [] => k a h
  | x :: rest => dWant E rec A all x rest pend a h k (wantedE all a x.o)
def kPair (v : AV) (h : Heap) : Option (AV × Heap) := some (v, h)
def kOut (wm : Nat) (o : Option (Bool × List Out)) (v : AV) (h : Heap) : Bool := outEq (outOf wm h v) o
def kLay (k : AV → Heap → R) (x : AV × Heap) : R := k x.1 x.2
def aCall3 (rec : Rec) (A : Alg R) (f : FuncId) (args : List AV) (h : Heap) (k : AV → Heap → R) (x : Option (Bool × List Out)) : R := match x with
  | none => A.bad
  | some (b, l) => bif rec Bool boolAlg (.body f args h.raise (kOut h.next (some (b, l)))) then kLay k (layOut b l h) else A.bad
def aCall2 (rec : Rec) (A : Alg R) (f : FuncId) (args : List AV) (h : Heap) (k : AV → Heap → R) (x : Option (AV × Heap)) : R := match x with
  | none => A.bad
  | some (v0, h0) => aCall3 rec A f args h k (outOf h.next h0 v0)
/-- A call that hangs on the room behind a grown slice: she is run with none, and with some. -/
structure Cap2 where
  b : Nat
  full : List AV
  wide : List AV
  h : Heap
def capH (h : Heap) (b e : Nat) (cs : List AV) : Heap := ((h.put b none).raise).new (.cells e 0 cs)
def cap2 (args : List AV) (h : Heap) : Option Cap2 := match args with
  | .us b 0 len sz :: .int k (.ofNat i) :: rest => match h.get b with
    | some (.cells e 0 cs) => bif Nat.ble h.wm b && Nat.beq cs.length (len * sz) && Nat.blt i len && Nat.blt 0 sz then
        some ⟨b, .sl b 0 len len :: .int k (.ofNat i) :: rest, .us h.next 0 len sz :: .int k (.ofNat i) :: rest, capH h b e (cs ++ rep sz [.any])⟩
      else none
    | _ => none
  | _ => none
def cCall3 (rec : Rec) (A : Alg R) (f : FuncId) (h : Heap) (k : AV → Heap → R) (c : Cap2) (x : Option (Bool × List Out)) : R := match x with
  | none => A.bad
  | some (b, l) => bif rec Bool boolAlg (.body f c.full h.raise (kOut h.next (some (b, l)))) && rec Bool boolAlg (.body f c.wide c.h (kOut h.next (some (b, l)))) then
      kLay k (layOut b l (h.put c.b none)) else A.bad
def cCall2 (rec : Rec) (A : Alg R) (f : FuncId) (h : Heap) (k : AV → Heap → R) (c : Cap2) (x : Option (AV × Heap)) : R := match x with
  | none => A.bad
  | some (v0, h0) => cCall3 rec A f h k c (outOf h.next h0 v0)
def cCall (rec : Rec) (A : Alg R) (f : FuncId) (args : List AV) (h : Heap) (k : AV → Heap → R) (c : Option Cap2) : R := match c with
  | none => rec R A (.body f args h k)
  | some c => cCall2 rec A f h k c (rec (Option (AV × Heap)) optAlg (.body f c.full h.raise kPair))
def hCall (E : Env) (rec : Rec) (A : Alg R) (f : FuncId) (args : List AV) (h : Heap) (k : AV → Heap → R) (x : Option (AV × Heap)) : R := match x with
  | some r => k r.1 r.2
  | none => bif E.amb f then aCall2 rec A f args h k (rec (Option (AV × Heap)) optAlg (.body f args h.raise kPair)) else
      bif E.caps f then cCall rec A f args h k (cap2 args h) else rec R A (.body f args h k)
def evCall (E : Env) (rec : Rec) (A : Alg R) (f : FuncId) (args : List AV) (h : Heap) (k : AV → Heap → R) : R := hCall E rec A f args h k (E.hook f args h)
def lRes (A : Alg R) (h : Heap) (k : AV → Heap → R) (vs : Option (List AV)) : R := match vs with
  | some vs => k (tupOf vs) h
  | none => A.bad
def kLeave (P : Program) (rec : Rec) (A : Alg R) (rs : List ResultVar) (k : AV → Heap → R) (e : Ex) (a : Fr) (h : Heap) : R := match e with
  | .exit _ => A.bad
  | _ => match a.ds with
    | [] => lRes A h k (ressE P a h rs)
    | ds => rec R A (.leave rs a ds h k)
def kDLeave (P : Program) (A : Alg R) (rs : List ResultVar) (k : AV → Heap → R) (e : Ex) (a : Fr) (h : Heap) : R := match e with
  | .exit _ => A.bad
  | _ => match a.ds with
    | [] => lRes A h k (ressE P a h rs)
    | _ => A.bad
def bBody (P : Program) (rec : Rec) (A : Alg R) (f : FuncId) (args : List AV) (h : Heap) (k : AV → Heap → R) (fn : Option Func) : R := match fn with
  | none => A.bad
  | some fn => match fn.body with
    | none => A.bad
    | some c => bif Nat.ble (Nat.max fn.ntmps args.length) 256 then rec R A (.code c ⟨putArgs args 0 TF.empty, Nat.max fn.ntmps args.length, [], f, [], none⟩ h (kLeave P rec A fn.results.toList k)) else A.bad
def dBody (P : Program) (rec : Rec) (A : Alg R) (f : FuncId) (args : List AV) (h : Heap) (k : AV → Heap → R) (fn : Option Func) : R := match fn with
  | none => A.bad
  | some fn => match fn.body with
    | none => A.bad
    | some c => bif Nat.ble (Nat.max fn.ntmps args.length) 256 then rec R A (.code c ⟨putArgs args 0 TF.empty, Nat.max fn.ntmps args.length, [], f, [], none⟩ h (kDLeave P A fn.results.toList k)) else A.bad
def kDrop (rec : Rec) (A : Alg R) (rs : List ResultVar) (a : Fr) (ds : List ADef) (k : AV → Heap → R) (_ : AV) (h : Heap) : R := rec R A (.leave rs a ds h k)
def lFn (rec : Rec) (A : Alg R) (rs : List ResultVar) (a : Fr) (ds : List ADef) (h : Heap) (k : AV → Heap → R) (r : Res) : R := match r with
  | .enter f args => rec R A (.dbody f args h (kDrop rec A rs a ds k))
  | _ => A.bad
def lColl (rec : Rec) (A : Alg R) (rs : List ResultVar) (a : Fr) (ds : List ADef) (b : Nat) (h : Heap) (k : AV → Heap → R) (x : Option Blk) : R := match x with
  | some (.defd false) => bif Nat.ble h.wm b then rec R A (.leave rs a ds (h.put b (some (.defd true))) k) else A.bad
  | _ => A.bad
def evLeave (E : Env) (rec : Rec) (A : Alg R) (rs : List ResultVar) (a : Fr) (ds : List ADef) (h : Heap) (k : AV → Heap → R) : R := match ds with
  | [] => lRes A h k (ressE E.P a h rs)
  | .coll b :: ds => lColl rec A rs a ds b h k (h.get b)
  | .fn f cap args :: ds => lFn rec A rs a ds h k (callE E f (args ++ cap) h)
def evBody (E : Env) (rec : Rec) (A : Alg R) (f : FuncId) (args : List AV) (h : Heap) (k : AV → Heap → R) : R := bBody E.P rec A f args h k (E.P.funcs[f]?)
def evStep (E : Env) (rec : Rec) (A : Alg R) (t : Task R) : R := match t with
  | .code c a h k => evCode E rec A c a h k
  | .loop c a h k => rec R A (.code c a h (kLoop rec A c k))
  | .ops all rest a h k => evOps E rec A all rest a h k
  | .dops all rest pend a h k => evDops E rec A all rest pend a h k
  | .call f args h k => evCall E rec A f args h k
  | .body f args h k => evBody E rec A f args h k
  | .dbody f args h k => dBody E.P rec A f args h k (E.P.funcs[f]?)
  | .leave rs a ds h k => evLeave E rec A rs a ds h k
end
def evNo (R : Type) (A : Alg R) (_ : Task R) : R := A.bad
def evS (E : Env) (_ : Nat) (rec : Rec) (R : Type) (A : Alg R) (t : Task R) : R := evStep E rec A t
def ev (E : Env) (n : Nat) : Rec := Nat.rec (motive := fun _ => Rec) evNo (evS E) n

end
end Go.Ev
