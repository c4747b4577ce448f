/- The evaluator: one operation; the plan of a region that draws; the run. -/
import Derived.Test.YtokdlolhbcjghacGreatE1
set_option linter.unusedVariables false
namespace Go.Ev
open Go
noncomputable section

inductive Ext where
  | casI (k : IntKind) | loadI (k : IntKind) | storeT | addI (k : IntKind) | nop | nop1 | ident | count | indexByte | mapsClone | makeNoZero | overlaps
/-- What is known of operations on values that are not looked into. -/
inductive FK where
  | bin (op : BinOp) | un (op : UnOp) | conv (d : TypeId) | len | max | min | slc
  deriving DecidableEq
structure Env where
  P : Program
  ext : FuncId → Option Ext
  amb : FuncId → Bool
  hook : FuncId → List AV → Heap → Option (AV × Heap)
  fact : FK → List AV → Option AV

structure Fr where
  tm : TF
  nt : Nat

def Fr.slot (a : Fr) (t : Nat) : AV := (pfOf t).g a.tm
def fput (d : Nat) (v : AV) (tm : TF) (nt : Nat) : Fr := bif Nat.blt d nt then ⟨tm.set d v, nt⟩ else ⟨tm, nt⟩
def Fr.put (a : Fr) (dst : Option Tmp) (v : AV) : Fr :=
  match dst with
  | none => a
  | some d => Fr.rec (fput d v) a
def Fr.ev (a : Fr) : Operand → Option AV
  | .tmp t => some (a.slot t)
  | .const v => ofVal v
  | .global g => some (.glob g)
  | .func f => some (.func (.func f) [] [])

inductive Res where
  | val (v : AV) (h : Heap)
  | enter (f : FuncId) (args : List AV)
  | choice (l : List (AV × Heap))
  | bad

def evs (ρ : Operand → Option AV) : List Operand → Option (List AV)
  | [] => some []
  | x :: r => match ρ x, evs ρ r with
    | some v, some vs => some (v :: vs)
    | _, _ => none
def evps (ρ : Operand → Option AV) : List (Nat × Operand) → Option (List (Nat × AV))
  | [] => some []
  | (i, x) :: r => match ρ x, evps ρ r with
    | some v, some vs => some ((i, v) :: vs)
    | _, _ => none
def evo (ρ : Operand → Option AV) : Option Operand → Option (Option AV)
  | none => some none
  | some x => (ρ x).map some

def ov (x : Option AV) (h : Heap) : Res := match x with
  | some v => .val v h
  | none => .bad
def oh (x : Option (AV × Heap)) : Res := match x with
  | some (v, h) => .val v h
  | none => .bad
def os (x : Option Heap) : Res := match x with
  | some h => .val .undef h
  | none => .bad

/-! Maps -/
def basicT (P : Program) (t : TypeId) : Bool := match P.underlying t with
  | some .bool => true
  | some (.int _) => true
  | some .string => true
  | _ => false
def keyOk (P : Program) (t : TypeId) (k : AV) : Bool :=
  match P.underlying t, k with
  | some .bool, .bool _ => true
  | some (.int _), .int _ _ => true
  | some .string, .str _ => true
  | some (.struct fields), .agg cs => fields.all fun f => (partE P f.type cs f.offset).isSome && basicT P f.type
  | _, _ => false
def findE (P : Program) (kt : TypeId) (k : AV) : List Ent → Nat → Option (Option (Nat × Ent))
  | [], _ => some none
  | e :: r, i => match eqE P 10000 kt k e.key with
    | some true => some (some (i, e))
    | some false => findE P kt k r (i + 1)
    | none => none
def setEnt : List Ent → Nat → Ent → List Ent
  | [], _, _ => []
  | _ :: r, 0, x => x :: r
  | e :: r, i + 1, x => e :: setEnt r i x
def delEnt : List Ent → Nat → List Ent
  | [], _ => []
  | _ :: r, 0 => r
  | e :: r, i + 1 => e :: delEnt r i

def entsOf (m : AV) (h : Heap) : Option (List Ent) :=
  match m with
  | .nilm => some []
  | .map r => match h.get r with
    | some (.map es _) => some es
    | _ => none
  | _ => none
def lookupE (P : Program) (t : TypeId) (m k : AV) (ok : Bool) (h : Heap) : Option AV :=
  match P.underlying t with
  | some (.map kt et) => bif keyOk P kt k then
    match entsOf m h with
    | none => none
    | some es => match findE P kt k es 0 with
      | none => none
      | some (some (_, e)) => some (bif ok then .tup [e.val, .bool true] else e.val)
      | some none => (zeroOf P et).map fun z => bif ok then .tup [z, .bool false] else z
    else none
  | _ => none

def mapUpdateE (P : Program) (t : TypeId) (m k v : AV) (h : Heap) : Option Heap :=
  match P.underlying t, m with
  | some (.map kt _), .map r => bif keyOk P kt k && Nat.ble h.wm r then
    match h.get r with
    | some (.map es c) => match findE P kt k es 0 with
      | none => none
      | some (some (i, e)) => bif keyEq e.key k then some (h.put r (some (.map (setEnt es i ⟨k, v, e.born⟩) c))) else none
      | some none => some (h.put r (some (.map (es ++ [⟨k, v, c⟩]) (c + 1))))
    | _ => none
    else none
  | _, _ => none

def mapEntryE (P : Program) (t : TypeId) (m k : AV) (h : Heap) : Option (AV × Heap) :=
  match P.underlying t, m with
  | some (.map kt et), .map r => bif keyOk P kt k && Nat.ble h.wm r then
    match h.get r with
    | some (.map es c) => match findE P kt k es 0 with
      | none => none
      | some (some (i, e)) => bif keyEq e.key k then some (.tup [e.val, .int .i64 e.born], h.put r (some (.map (setEnt es i ⟨k, e.val, e.born⟩) c))) else none
      | some none => (zeroOf P et).map fun z => (.tup [z, .int .i64 c], h.put r (some (.map (es ++ [⟨k, z, c⟩]) (c + 1))))
    | _ => none
    else none
  | _, _ => none

def findBorn (b : Nat) : List Ent → Nat → Option (Nat × Ent)
  | [], _ => none
  | e :: r, i => bif Nat.beq e.born b then some (i, e) else findBorn b r (i + 1)
def entryStoreE (m s v : AV) (h : Heap) : Option Heap :=
  match m, s with
  | .map r, .int _ s => match h.get r, natOf s with
    | some (.map es c), some b => match findBorn b es 0 with
      | some (i, e) => bif Nat.ble h.wm r then some (h.put r (some (.map (setEnt es i ⟨e.key, v, e.born⟩) c))) else none
      | none => none
    | _, _ => none
  | _, _ => none

def deleteE (P : Program) (t : TypeId) (m k : AV) (h : Heap) : Option Heap :=
  match P.underlying t, m with
  | some (.map kt _), .map r => bif keyOk P kt k && Nat.ble h.wm r then
    match h.get r with
    | some (.map es c) => match findE P kt k es 0 with
      | none => none
      | some (some (i, _)) => some (h.put r (some (.map (delEnt es i) c)))
      | some none => some (h.put r (some (.map es c)))
    | _ => none
    else none
  | _, _ => none

def rangeE (P : Program) (t : TypeId) (x : AV) (h : Heap) : Option (AV × Heap) :=
  match P.underlying t, x with
  | some (.map _ _), .nilm => some (.ptr h.next 0, h.new (.mapIter none 0 [] 0))
  | some (.map _ _), .map m => match h.get m with
    | some (.map _ c) => some (.ptr h.next 0, h.new (.mapIter (some m) c [] c))
    | _ => none
  | _, _ => none

def nextLeft (es : List Ent) (seen : List Nat) : List Ent := es.filter fun e => !(seen.contains e.born)
def nextM (r m since : Nat) (seen : List Nat) (c : Nat) (h : Heap) (left : List Ent) : Res :=
  match left with
  | [] => .val (.tup [.bool false]) h
  | left => .choice (left.map fun e => (.tup [.bool true, e.key, e.val], h.put r (some (.mapIter (some m) since (seen ++ [e.born]) c))))
def nextE (it : AV) (isStr : Bool) (h : Heap) : Res :=
  match it, isStr with
  | .ptr r 0, false => match h.get r with
    | some (.mapIter none _ _ _) => .val (.tup [.bool false]) h
    | some (.mapIter (some m) since seen last) => match h.get m with
      | some (.map es c) =>
        bif Nat.ble h.wm r && !(!seen.isEmpty && !es.isEmpty && es.all (fun e => Nat.ble last e.born)) && !((nextLeft es seen).any (fun e => Nat.ble since e.born)) then nextM r m since seen c h (nextLeft es seen) else .bad
      | _ => .bad
    | _ => .bad
  | _, _ => .bad

def lastOf : List Nat → Option Nat
  | [] => none
  | [x] => some x
  | _ :: r => lastOf r
def entryE (it : AV) (h : Heap) : Option AV :=
  match it with
  | .ptr r 0 => match h.get r with
    | some (.mapIter (some m) _ seen stepped) => match lastOf seen, h.get m with
      | some s, some (.map es c) => bif Nat.beq c stepped then (findBorn s es 0).map fun x => .tup [x.2.key, x.2.val] else none
      | _, _ => none
    | _ => none
  | _ => none

/-! Interfaces -/
def failsE (P : Program) (asserted : TypeId) (ok : Bool) : Option AV := bif ok then (zeroOf P asserted).map fun z => .tup [z, .bool false] else none
def holdsE (ok : Bool) (v : AV) : Option AV := some (bif ok then .tup [v, .bool true] else v)
def typeAssertE (P : Program) (x : AV) (asserted : TypeId) (ok : Bool) : Option AV :=
  match P.underlying asserted with
  | some (.interface _) => none
  | some _ => match x with
    | .nili => failsE P asserted ok
    | .iface t v => bif Nat.beq t asserted then holdsE ok v else failsE P asserted ok
    | _ => none
  | none => none

def convE (P : Program) (s d : TypeId) (x : AV) (h : Heap) : Option (AV × Heap) :=
  match P.underlying s, P.underlying d, x with
  | some _, some (.int k), .int _ n => some (.int k (wrapE k n), h)
  | some _, some .string, .str l => some (.str l, h)
  | _, _, _ => none

/-- Library functions without a Go body. -/
def extE (P : Program) (e : Ext) (args : List AV) (h : Heap) : Option (AV × Heap) :=
  match e, args with
  | .addI k, [.ptr b o, .int _ y] => match h.get b with
    | some (.cells _ _ cs) => match cs[o]? with
      | some (.int k2 n) => if k = k2 then (putCells h b o [.int k (wrapE k (n + y))]).map fun h' => (.int k (wrapE k (n + y)), h') else none
      | _ => none
    | _ => none
  | .mapsClone, [.iface t (.map r)] => match h.get r with
    | some (.map es c) => some (.iface t (.map h.next), h.new (.map es c))
    | _ => none
  | _, _ => none

def isStr : AV → Bool
  | .str _ => true
  | _ => false
def lenB (P : Program) (t : Option TypeDesc) (x : AV) (h : Heap) : Option Nat := match t with
  | some .string => match x with
    | .str l => some l.length
    | _ => none
  | some (.slice _) => bif isStr x then none else lenE x
  | some (.map _ _) => match x with
    | .nilm => some 0
    | .map r => match h.get r with
      | some (.map es _) => some es.length
      | _ => none
    | _ => none
  | _ => none
def clearS (P : Program) (elem : TypeId) (b o n : Nat) (h : Heap) : Option (AV × Heap) := match n with
  | 0 => some (.undef, h)
  | n => match zeroOf P elem with
    | some z => bif Nat.blt 0 z.cells.length then (putCells h b o (rep n z.cells)).map fun h' => (.undef, h') else none
    | none => none
def clearE (P : Program) (t : Option TypeDesc) (x : AV) (h : Heap) : Option (AV × Heap) := match t with
  | some (.slice elem) => match x with
    | .nils => some (.undef, h)
    | .sl b o n _ => clearS P elem b o n h
    | .us b o n _ => clearS P elem b o n h
    | _ => none
  | some (.map _ _) => match x with
    | .nilm => some (.undef, h)
    | .map r => match h.get r with
      | some (.map _ c) => bif Nat.ble h.wm r then some (.undef, h.put r (some (.map [] c))) else none
      | _ => none
    | _ => none
  | _ => none
def builtinE (P : Program) (b : Builtin) (argTypes : Array TypeId) (args : List AV) (h : Heap) : Option (AV × Heap) :=
  match b, args with
  | .len, [x] => (lenB P ((argTypes[0]?).bind P.underlying) x h).map fun (n : Nat) => (AV.int .i64 (n : Int), h)
  | .append, [x, y] => appendE P argTypes x y h
  | .copy, [x, y] => copyE P argTypes x y h
  | .clear, [x] => clearE P ((argTypes[0]?).bind P.underlying) x h
  | .delete, [m, k] => match argTypes[0]? with
    | some t => (deleteE P t m k h).map fun h' => (.undef, h')
    | none => none
  | .max, [.int k x, .int _ y] => some (.int k (bif iltb x y then y else x), h)
  | .min, [.int k x, .int _ y] => some (.int k (bif iltb y x then y else x), h)
  | _, _ => none

def callE (E : Env) (f : FuncId) (args : List AV) (h : Heap) : Res :=
  match E.P.funcs[f]? with
  | none => .bad
  | some fn => match fn.body with
    | some _ => .enter f args
    | none => match E.ext f with
      | some e => oh (extE E.P e args h)
      | none => .bad
def callVal (E : Env) (f : AV) (args : List AV) (h : Heap) : Res :=
  match f with
  | .func (.func f) first cap => callE E f (first ++ args ++ cap) h
  | _ => .bad

def nilCheckE (x : AV) : Option AV :=
  match x with
  | .nilp | .nili | .nilf => none
  | .opq _ => none
  | .func (.method _) _ _ => none
  | x => some x

def orF (E : Env) (x : Option AV) (k : FK) (vs : List AV) : Option AV := match x with
  | some v => some v
  | none => E.fact k vs

def sPick (ρ : Operand → Option AV) (a b : Operand) (h : Heap) (c : Option AV) : Res := match c with
  | some (.bool t) => ov (bif t then ρ a else ρ b) h
  | _ => .bad
def sNew (e : TypeId) (h : Heap) (v : Option AV) : Res := match v with
  | some z => oh (newVarE e z h)
  | none => .bad
def sBuild (P : Program) (t : TypeId) (h : Heap) (ps : Option (List (Nat × AV))) : Res := match ps with
  | some ps => ov (buildE P t ps) h
  | none => .bad
def sBuildSlice (P : Program) (t n : Nat) (h : Heap) (ps : Option (List (Nat × AV))) : Res := match ps with
  | some ps => oh (buildSliceE P t n ps h)
  | none => .bad
def sLoad (P : Program) (t : TypeId) (h : Heap) (a : Option AV) : Res := match a with
  | some a => ov (loadE P t a h) h
  | none => .bad
def sStore (P : Program) (t : TypeId) (h : Heap) (a v : Option AV) : Res := match a with
  | some a => match v with
    | some v => os (storeE P t a v h)
    | none => .bad
  | none => .bad
def sNil (h : Heap) (a : Option AV) : Res := match a with
  | some a => ov (nilCheckE a) h
  | none => .bad
def sBin (E : Env) (op : BinOp) (t : TypeId) (x y : Operand) (h : Heap) (a b : Option AV) : Res := match a with
  | some a => match b with
    | some b => bif guardOk E.P op t x y a b then ov (orF E (binE E.P op t a b) (.bin op) [a, b]) h else .bad
    | none => .bad
  | none => .bad
def sUn (E : Env) (op : UnOp) (h : Heap) (a : Option AV) : Res := match a with
  | some a => ov (orF E (unE op a) (.un op) [a]) h
  | none => .bad
def sConv (E : Env) (s d : TypeId) (h : Heap) (a : Option AV) : Res := match a with
  | some a => match convE E.P s d a h with
    | some r => .val r.1 r.2
    | none => ov (E.fact (.conv d) [a]) h
  | none => .bad
def sIface (P : Program) (t : TypeId) (h : Heap) (a : Option AV) : Res := match a with
  | some v => match P.underlying t with
    | some (.interface _) => .bad
    | some _ => .val (.iface t v) h
    | none => .bad
  | none => .bad
def sFunc (fn : Fn) (h : Heap) (a b : Option (List AV)) : Res := match a with
  | some a => match b with
    | some b => match fn with
      | .yield _ => .bad
      | fn => .val (.func fn a b) h
    | none => .bad
  | none => .bad
def sMap (P : Program) (t : TypeId) (h : Heap) (r : Option (Option AV)) : Res := match P.underlying t with
  | some (.map _ _) => match r with
    | some none => .val (.map h.next) (h.new (.map [] 0))
    | some (some (.int _ _)) => .val (.map h.next) (h.new (.map [] 0))
    | _ => .bad
  | _ => .bad
def sMakeSlice (P : Program) (t : TypeId) (h : Heap) (l c : Option AV) : Res := match l with
  | some l => match c with
    | some c => oh (makeSliceE P t l c h)
    | none => .bad
  | none => .bad
def sSlice (E : Env) (t : TypeId) (h : Heap) (x : Option AV) (lo hi mx : Option (Option AV)) : Res := match x with
  | some x => match lo with
    | some lo => match hi with
      | some hi => match mx with
        | some mx => bif hi.isNone && mx.isSome then .bad else ov (sliceE E.P t x lo hi mx h) h
        | none => .bad
      | none => .bad
    | none => .bad
  | none => .bad
def sField (P : Program) (t : TypeId) (f : Nat) (h : Heap) (a : Option AV) : Res := match a with
  | some a => ov (fieldE P t a f) h
  | none => .bad
def sFieldAddr (P : Program) (t : TypeId) (f : Nat) (h : Heap) (a : Option AV) : Res := match a with
  | some a => ov (fieldAddrE P t a f) h
  | none => .bad
def s2 (F : AV → AV → Option AV) (h : Heap) (a b : Option AV) : Res := match a with
  | some a => match b with
    | some b => ov (F a b) h
    | none => .bad
  | none => .bad
def s3h (F : AV → AV → AV → Option Heap) (a b c : Option AV) : Res := match a with
  | some a => match b with
    | some b => match c with
      | some c => os (F a b c)
      | none => .bad
    | none => .bad
  | none => .bad
def s2h (F : AV → AV → Option (AV × Heap)) (a b : Option AV) : Res := match a with
  | some a => match b with
    | some b => oh (F a b)
    | none => .bad
  | none => .bad
def s1h (F : AV → Option (AV × Heap)) (a : Option AV) : Res := match a with
  | some a => oh (F a)
  | none => .bad
def s1r (F : AV → Res) (a : Option AV) : Res := match a with
  | some a => F a
  | none => .bad
def s1 (F : AV → Option AV) (h : Heap) (a : Option AV) : Res := match a with
  | some a => ov (F a) h
  | none => .bad
def extractE (i : Nat) (x : AV) : Option AV := match x with
  | .tup vs => vs[i]?
  | _ => none
def sBuiltin (E : Env) (b : Builtin) (ts : Array TypeId) (h : Heap) (args : List AV) : Res := match builtinE E.P b ts args h with
  | some r => .val r.1 r.2
  | none => match b with
    | .len => ov (E.fact .len args) h
    | .max => ov (E.fact .max args) h
    | .min => ov (E.fact .min args) h
    | _ => .bad
def sCall (E : Env) (ρ : Operand → Option AV) (c : Call) (h : Heap) (args : Option (List AV)) : Res := match args with
  | none => .bad
  | some args => match c.callee with
    | .builtin b => sBuiltin E b c.argTypes h args
    | .invoke _ _ => .bad
    | .value f => s1r (fun f => callVal E f args h) (ρ f)
def stepOp (E : Env) (ρ : Operand → Option AV) (o : Oper) (h : Heap) : Res :=
  match o.op with
  | .move x => ov (ρ x) h
  | .assign x => ov (ρ x) h
  | .pick c a b => sPick ρ a b h (ρ c)
  | .alloc e => sNew e h (zeroOf E.P e)
  | .box e x => sNew e h (ρ x)
  | .build t ps => sBuild E.P t h (evps ρ ps.toList)
  | .buildSlice t n ps => sBuildSlice E.P t n h (evps ρ ps.toList)
  | .load t a => sLoad E.P t h (ρ a)
  | .store t a x => sStore E.P t h (ρ a) (ρ x)
  | .nilCheck x => sNil h (ρ x)
  | .binOp op t x y _ => sBin E op t x y h (ρ x) (ρ y)
  | .unOp op _ x => sUn E op h (ρ x)
  | .convert s d x => sConv E s d h (ρ x)
  | .makeInterface t x => sIface E.P t h (ρ x)
  | .makeFunc fn first cap => sFunc fn h (evs ρ first.toList) (evs ρ cap.toList)
  | .makeMap t r => sMap E.P t h (evo ρ r)
  | .makeSlice t l c => sMakeSlice E.P t h (ρ l) (ρ c)
  | .slice t x lo hi mx => sSlice E t h (ρ x) (evo ρ lo) (evo ρ hi) (evo ρ mx)
  | .fieldAddr s x f => sFieldAddr E.P s f h (ρ x)
  | .field t x f => sField E.P t f h (ρ x)
  | .indexAddr t x i => s2 (indexAddrE E.P t) h (ρ x) (ρ i)
  | .index t x i => s2 (indexE E.P t) h (ρ x) (ρ i)
  | .lookup t x i ok => s2 (fun a i => lookupE E.P t a i ok h) h (ρ x) (ρ i)
  | .mapUpdate t m k x => s3h (fun m k v => mapUpdateE E.P t m k v h) (ρ m) (ρ k) (ρ x)
  | .insert t m k x => s3h (fun m k v => mapUpdateE E.P t m k v h) (ρ m) (ρ k) (ρ x)
  | .mapEntry t m k => s2h (fun m k => mapEntryE E.P t m k h) (ρ m) (ρ k)
  | .entryStore _ m s x => s3h (fun m s v => entryStoreE m s v h) (ρ m) (ρ s) (ρ x)
  | .range t x => s1h (fun a => rangeE E.P t a h) (ρ x)
  | .next it s => s1r (fun a => nextE a s h) (ρ it)
  | .entry it => s1 (fun a => entryE a h) h (ρ it)
  | .typeAssert x _ t ok => s1 (fun a => typeAssertE E.P a t ok) h (ρ x)
  | .extract t i => s1 (extractE i) h (ρ t)
  | .call c => sCall E ρ c h (evs ρ c.args.toList)
  | _ => .bad

/-! Regions that draw their order -/
def isFloat (o : Oper) : Bool :=
  match o.op with
  | .move _ | .pick .. | .alloc _ | .box .. | .build .. | .buildSlice .. | .load .. | .nilCheck _ | .binOp .. | .unOp .. | .makeInterface .. | .makeFunc ..
  | .makeMap .. | .makeSlice .. | .slice .. | .fieldAddr .. | .field .. | .indexAddr .. | .index .. | .lookup .. | .extract .. | .convert .. | .typeAssert .. => true
  | .call { callee := .builtin .len, .. } | .call { callee := .builtin .cap, .. } | .call { callee := .builtin .min, .. } | .call { callee := .builtin .max, .. } => true
  | _ => false
def isAlloc (o : Oper) : Bool :=
  match o.op with
  | .alloc _ | .box .. | .buildSlice .. | .makeMap .. | .makeSlice .. => true
  | _ => false

def binding (e : Edge) : Bool := match e.ground with
  | .textOnly _ | .gcOnly _ => false
  | _ => true
/-- For each operation the mask of those that come ahead of it; none: an edge leads forward. -/
def maskOf (acc : List Nat) : List Edge → Nat
  | [] => 0
  | e :: r => bif binding e then (2 ^ e.on ||| acc.getD e.on 0) ||| maskOf acc r else maskOf acc r
def masks : List Oper → List Nat → Option (List Nat)
  | [], acc => some acc
  | o :: r, acc => bif o.after.toList.all (fun e => !binding e || Nat.blt e.on acc.length) then masks r (acc ++ [maskOf acc o.after.toList]) else none
def slotOf : Operand → List Nat
  | .tmp t => [t]
  | _ => []
def readsOf (ops : List Oper) (o : Oper) : List Nat :=
  o.op.operands.toList.flatMap slotOf ++ (match o.guard with
    | some (j, _) => match ops[j]? with
      | some g => g.dst.toList
      | none => []
    | none => [])
structure PO where
  i : Nat
  o : Oper
  m : Nat
  fl : Bool
def zipPO : List Oper → List Nat → Nat → List PO
  | o :: r, m :: ms, i => ⟨i, o, m, isFloat o⟩ :: zipPO r ms (i + 1)
  | _, _, _ => []
/-- All floating operations that are ready, in the order of the text; again, till none is. -/
def pull (done : Nat) : List PO → List PO × List PO × Nat
  | [] => ([], [], done)
  | x :: r => bif x.fl && Nat.beq (x.m &&& done) x.m then
      let (a, b, d) := pull (done ||| 2 ^ x.i) r
      (x :: a, b, d)
    else
      let (a, b, d) := pull done r
      (a, x :: b, d)
def order : Nat → Nat → List PO → List PO
  | 0, _, l => l
  | f + 1, done, l =>
    match pull done l with
    | (a, b, d) => match b.find? (fun x => !x.fl) with
      | none => a ++ b
      | some c => a ++ c :: order f (d ||| 2 ^ c.i) (b.filter fun x => !(Nat.beq x.i c.i))
def dstIs (o : Oper) (t : Nat) : Bool := match o.dst with
  | some d => Nat.beq d t
  | none => false
def slotsOk (ops : List Oper) (l : List PO) : Bool :=
  l.all fun x => ((readsOf ops x.o).all fun t => l.all fun y => !(dstIs y.o t) || x.m.testBit y.i || (!y.fl && y.m.testBit x.i)) &&
    (match x.o.dst with
    | none => true
    | some d => l.all fun y => !(dstIs y.o d) || Nat.beq x.i y.i)
def chainOk (l : List PO) : Bool :=
  l.all fun x => x.fl || l.all fun y => y.fl || !(Nat.blt y.i x.i) || x.m.testBit y.i
def eager : Nat → List PO → Bool
  | _, [] => true
  | done, x :: r => Nat.beq (x.m &&& done) x.m && !(done.testBit x.i) && (x.fl || r.all (fun y => !y.fl || !(Nat.beq (y.m &&& done) y.m))) && eager (done ||| 2 ^ x.i) r
def planR (ops : List Oper) (l : List PO) : List PO := (order (ops.length + 1) 0 l).filterMap fun y => l[y.i]?
def plan (ops : List Oper) : Option (List PO) :=
  match masks ops [] with
  | none => none
  | some ms => bif slotsOk ops (zipPO ops ms 0) && chainOk (zipPO ops ms 0) && eager 0 (planR ops (zipPO ops ms 0)) &&
      (zipPO ops ms 0).all (fun x => (planR ops (zipPO ops ms 0)).any fun y => Nat.beq x.i y.i) then some (planR ops (zipPO ops ms 0)) else none

/-! Equality of values -/
mutual
def AV.beq : AV → AV → Bool
  | .bool a, .bool b => a == b
  | .int k a, .int k' b => decide (k = k') && ieqb a b
  | .str a, .str b => beqB a b
  | .nilp, .nilp | .nils, .nils | .es0, .es0 | .nilm, .nilm | .nilf, .nilf | .nili, .nili => true
  | .ptr a b, .ptr c d => Nat.beq a c && Nat.beq b d
  | .glob a, .glob b | .map a, .map b | .opq a, .opq b | .ostr a, .ostr b => Nat.beq a b
  | .oint k a, .oint k' b => decide (k = k') && Nat.beq a b
  | .es a b c, .es a' b' c' => Nat.beq a a' && Nat.beq b b' && Nat.beq c c'
  | .sl a b c d, .sl a' b' c' d' => Nat.beq a a' && Nat.beq b b' && Nat.beq c c' && Nat.beq d d'
  | .us a b c d, .us a' b' c' d' => Nat.beq a a' && Nat.beq b b' && Nat.beq c c' && Nat.beq d d'
  | .func f a b, .func g c d => decide (f = g) && AV.beqs a c && AV.beqs b d
  | .iface t v, .iface u w => Nat.beq t u && AV.beq v w
  | .agg a, .agg b | .tup a, .tup b => AV.beqs a b
  | _, _ => false
def AV.beqs : List AV → List AV → Bool
  | [], [] => true
  | a :: x, b :: y => AV.beq a b && AV.beqs x y
  | _, _ => false
end

/-! The run -/
inductive Ex where
  | norm | exit (id : Nat) | ret

structure Pend where
  i : Nat
  o : Oper
  v : AV

inductive Task (R : Type) where
  | code (c : Code) (a : Fr) (h : Heap) (k : Ex → Fr → Heap → R)
  | loop (c : Code) (a : Fr) (h : Heap) (k : Ex → Fr → Heap → R)
  | ops (all rest : List Oper) (a : Fr) (h : Heap) (k : Fr → Heap → R)
  | dops (all : List Oper) (rest : List PO) (pend : List Pend) (a : Fr) (h : Heap) (k : Fr → Heap → R)
  | call (f : FuncId) (args : List AV) (h : Heap) (k : AV → Heap → R)
  | body (f : FuncId) (args : List AV) (h : Heap) (k : AV → Heap → R)

structure Alg (R : Type) where
  bad : R
  amb : List (AV × Heap) → (AV × Heap → R) → R
def boolAlg : Alg Bool := ⟨false, fun l f => l.all f⟩
def optAlg : Alg (Option (AV × Heap)) := ⟨none, fun l f => match l with
  | x :: _ => f x
  | [] => none⟩

def wantedE (all : List Oper) (a : Fr) (o : Oper) : Option Bool :=
  match o.guard with
  | none => some true
  | some (j, want) => match (all[j]?).bind (·.dst) with
    | none => some false
    | some d => bif Nat.blt d a.nt then match a.slot d with
      | .bool b => some (b == want)
      | .opq _ => none
      | _ => some false
      else some false

def resE (P : Program) (a : Fr) (h : Heap) : ResultVar → Option AV
  | .tmp t => some (a.slot t)
  | .cell x t => loadE P t (a.slot x) h
def ressE (P : Program) (a : Fr) (h : Heap) : List ResultVar → Option (List AV)
  | [] => some []
  | r :: l => match resE P a h r, ressE P a h l with
    | some v, some vs => some (v :: vs)
    | _, _ => none
def tupOf : List AV → AV
  | [v] => v
  | vs => .tup vs

def putArgs : List AV → Nat → TF → TF
  | [], _, t => t
  | v :: r, i, t => putArgs r (i + 1) (t.set i v)

def recheckR (r : Res) (v : AV) : Bool := match r with
  | .val v' _ => AV.beq v' v
  | _ => false
def recheck (E : Env) (a : Fr) (h : Heap) : List Pend → Bool
  | [] => true
  | p :: r => (isAlloc p.o || recheckR (stepOp E a.ev p.o h) p.v) && recheck E a h r

/-! What an ambiguous call hands back: plain values, and new rows of plain cells. -/
def plainCell : AV → Bool
  | .bool _ | .int _ _ | .str _ | .nilp | .nils | .nilm | .nilf | .nili => true
  | _ => false
inductive Out where
  | plain (v : AV)
  | row (elem : Nat) (len sz : Nat) (cs : List AV)
  deriving Inhabited
def outOf1 (wm : Nat) (h : Heap) (v : AV) : Option Out :=
  match v with
  | .us b 0 len sz => bif Nat.ble wm b then match h.get b with
    | some (.cells e 0 cs) => bif Nat.beq cs.length (len * sz) && cs.all plainCell then some (.row e len sz cs) else none
    | _ => none
    else none
  | v => bif plainCell v then some (.plain v) else none
def outsOf (wm : Nat) (h : Heap) : List AV → Option (List Out)
  | [] => some []
  | v :: r => match outOf1 wm h v, outsOf wm h r with
    | some o, some os => some (o :: os)
    | _, _ => none
def rowsN : List Out → Nat
  | [] => 0
  | .plain _ :: r => rowsN r
  | .row _ _ _ _ :: r => rowsN r + 1
def oneRow (b : Bool) (l : List Out) : Option (Bool × List Out) := bif Nat.ble (rowsN l) 1 then some (b, l) else none
def outOf (wm : Nat) (h : Heap) (v : AV) : Option (Bool × List Out) :=
  match v with
  | .tup vs => (outsOf wm h vs).bind (oneRow true)
  | v => (outsOf wm h [v]).bind (oneRow false)
def Out.beq : Out → Out → Bool
  | .plain a, .plain b => AV.beq a b
  | .row e l s c, .row e' l' s' c' => Nat.beq e e' && Nat.beq l l' && Nat.beq s s' && AV.beqs c c'
  | _, _ => false
def outsBeq : List Out → List Out → Bool
  | [], [] => true
  | a :: x, b :: y => Out.beq a b && outsBeq x y
  | _, _ => false
def outEq (x y : Option (Bool × List Out)) : Bool :=
  match x, y with
  | some (a, l), some (b, m) => (a == b) && outsBeq l m
  | _, _ => false
def layOuts : List Out → Heap → List AV × Heap
  | [], h => ([], h)
  | .plain v :: r, h => let (vs, h') := layOuts r h; (v :: vs, h')
  | .row e len sz cs :: r, h => let (vs, h') := layOuts r (h.new (.cells e 0 cs)); (.us h.next 0 len sz :: vs, h')
def layOut (b : Bool) (l : List Out) (h : Heap) : AV × Heap :=
  match layOuts l h with
  | (vs, h') => (bif b then .tup vs else vs.headD .undef, h')

/-! The steps. 'rec': the run with less fuel. -/
def hraise (t : TH) (next _ : Nat) : Heap := ⟨t, next, next⟩
def Heap.raise (h : Heap) : Heap := Heap.rec hraise h
abbrev Rec := (R : Type) → Alg R → Task R → R

section
variable {R : Type}
def kSeq (rec : Rec) (A : Alg R) (y : Code) (k : Ex → Fr → Heap → R) (e : Ex) (a : Fr) (h : Heap) : R := match e with
  | .norm => rec R A (.code y a h k)
  | e => k e a h
def kBlock (id : Nat) (k : Ex → Fr → Heap → R) (e : Ex) (a : Fr) (h : Heap) : R := match e with
  | .exit i => bif Nat.beq i id then k .norm a h else k (.exit i) a h
  | e => k e a h
def kLoop (rec : Rec) (A : Alg R) (c : Code) (k : Ex → Fr → Heap → R) (e : Ex) (a : Fr) (h : Heap) : R := match e with
  | .norm => rec R A (.loop c a h k)
  | e => k e a h
def kNorm (k : Ex → Fr → Heap → R) (a : Fr) (h : Heap) : R := k .norm a h
def cCond (rec : Rec) (A : Alg R) (x y : Code) (a : Fr) (h : Heap) (k : Ex → Fr → Heap → R) (v : Option AV) : R := match v with
  | some (.bool b) => rec R A (.code (bif b then x else y) a h k)
  | _ => A.bad
def cDraw (rec : Rec) (A : Alg R) (ops : List Oper) (a : Fr) (h : Heap) (k : Ex → Fr → Heap → R) (p : Option (List PO)) : R := match p with
  | some l => rec R A (.dops ops l [] a h (kNorm k))
  | none => A.bad
def cRegion (rec : Rec) (A : Alg R) (ops : List Oper) (draw : Bool) (a : Fr) (h : Heap) (k : Ex → Fr → Heap → R) : R :=
  bif draw then cDraw rec A ops a h k (plan ops) else rec R A (.ops ops ops a h (kNorm k))
def evCode (rec : Rec) (A : Alg R) (c : Code) (a : Fr) (h : Heap) (k : Ex → Fr → Heap → R) : R := match c with
  | .skip => k .norm a h
  | .label _ => k .norm a h
  | .ret => k .ret a h
  | .exit id => k (.exit id) a h
  | .seq x y => rec R A (.code x a h (kSeq rec A y k))
  | .cond c x y => cCond rec A x y a h k (a.ev c)
  | .block id b => rec R A (.code b a h (kBlock id k))
  | .loop b => rec R A (.loop b a h k)
  | .scope b => rec R A (.code b a h k)
  | .region _ ops draw => cRegion rec A ops.toList draw a h k
  | _ => A.bad
def evGo (rec : Rec) (A : Alg R) (h : Heap) (k : AV → Heap → R) (r : Res) : R := match r with
  | .val v h => k v h
  | .enter f args => rec R A (.call f args h k)
  | .choice l => A.amb l fun x => k x.1 x.2
  | .bad => A.bad
def kOp (rec : Rec) (A : Alg R) (all rest : List Oper) (dst : Option Tmp) (a : Fr) (k : Fr → Heap → R) (v : AV) (h : Heap) : R := rec R A (.ops all rest (a.put dst v) h k)
def oWant (E : Env) (rec : Rec) (A : Alg R) (all rest : List Oper) (o : Oper) (a : Fr) (h : Heap) (k : Fr → Heap → R) (w : Option Bool) : R := match w with
  | some true => evGo rec A h (kOp rec A all rest o.dst a k) (stepOp E a.ev o h)
  | some false => rec R A (.ops all rest (a.put o.dst .undef) h k)
  | none => A.bad
def evOps (E : Env) (rec : Rec) (A : Alg R) (all rest : List Oper) (a : Fr) (h : Heap) (k : Fr → Heap → R) : R := match rest with
  | [] => k a h
  | o :: rest => oWant E rec A all rest o a h k (wantedE all a o)
def kDop (E : Env) (rec : Rec) (A : Alg R) (all : List Oper) (rest : List PO) (pend : List Pend) (dst : Option Tmp) (a : Fr) (k : Fr → Heap → R) (v : AV) (h : Heap) : R :=
  bif recheck E (a.put dst v) h pend then rec R A (.dops all rest pend (a.put dst v) h k) else A.bad
def dFloat (E : Env) (rec : Rec) (A : Alg R) (all : List Oper) (x : PO) (rest : List PO) (pend : List Pend) (a : Fr) (k : Fr → Heap → R) (r : Res) : R := match r with
  | .val v h => bif !(isAlloc x.o) || recheck E (a.put x.o.dst v) h pend then rec R A (.dops all rest (⟨x.i, x.o, v⟩ :: pend) (a.put x.o.dst v) h k) else A.bad
  | _ => A.bad
def dWant (E : Env) (rec : Rec) (A : Alg R) (all : List Oper) (x : PO) (rest : List PO) (pend : List Pend) (a : Fr) (h : Heap) (k : Fr → Heap → R) (w : Option Bool) : R := match w with
  | some true => bif x.fl then dFloat E rec A all x rest pend a k (stepOp E a.ev x.o h)
    else evGo rec A h (kDop E rec A all rest (pend.filter fun p => !(x.m.testBit p.i)) x.o.dst a k) (stepOp E a.ev x.o h)
  | some false => rec R A (.dops all rest pend (a.put x.o.dst .undef) h k)
  | none => A.bad
def evDops (E : Env) (rec : Rec) (A : Alg R) (all : List Oper) (rest : List PO) (pend : List Pend) (a : Fr) (h : Heap) (k : Fr → Heap → R) : R := match rest with
  | [] => k a h
  | x :: rest => dWant E rec A all x rest pend a h k (wantedE all a x.o)
def kPair (v : AV) (h : Heap) : Option (AV × Heap) := some (v, h)
def kOut (wm : Nat) (o : Option (Bool × List Out)) (v : AV) (h : Heap) : Bool := outEq (outOf wm h v) o
def kLay (k : AV → Heap → R) (x : AV × Heap) : R := k x.1 x.2
def aCall3 (rec : Rec) (A : Alg R) (f : FuncId) (args : List AV) (h : Heap) (k : AV → Heap → R) (x : Option (Bool × List Out)) : R := match x with
  | none => A.bad
  | some (b, l) => bif rec Bool boolAlg (.body f args h.raise (kOut h.next (some (b, l)))) then kLay k (layOut b l h) else A.bad
def aCall2 (rec : Rec) (A : Alg R) (f : FuncId) (args : List AV) (h : Heap) (k : AV → Heap → R) (x : Option (AV × Heap)) : R := match x with
  | none => A.bad
  | some (v0, h0) => aCall3 rec A f args h k (outOf h.next h0 v0)
def hCall (E : Env) (rec : Rec) (A : Alg R) (f : FuncId) (args : List AV) (h : Heap) (k : AV → Heap → R) (x : Option (AV × Heap)) : R := match x with
  | some r => k r.1 r.2
  | none => bif E.amb f then aCall2 rec A f args h k (rec (Option (AV × Heap)) optAlg (.body f args h.raise kPair)) else rec R A (.body f args h k)
def evCall (E : Env) (rec : Rec) (A : Alg R) (f : FuncId) (args : List AV) (h : Heap) (k : AV → Heap → R) : R := hCall E rec A f args h k (E.hook f args h)
def lRes (A : Alg R) (h : Heap) (k : AV → Heap → R) (vs : Option (List AV)) : R := match vs with
  | some vs => k (tupOf vs) h
  | none => A.bad
def kLeave (P : Program) (A : Alg R) (rs : List ResultVar) (k : AV → Heap → R) (e : Ex) (a : Fr) (h : Heap) : R := match e with
  | .exit _ => A.bad
  | _ => lRes A h k (ressE P a h rs)
def bBody (P : Program) (rec : Rec) (A : Alg R) (f : FuncId) (args : List AV) (h : Heap) (k : AV → Heap → R) (fn : Option Func) : R := match fn with
  | none => A.bad
  | some fn => match fn.body with
    | none => A.bad
    | some c => bif Nat.ble (Nat.max fn.ntmps args.length) 256 then rec R A (.code c ⟨putArgs args 0 TF.empty, Nat.max fn.ntmps args.length⟩ h (kLeave P A fn.results.toList k)) else A.bad
def evBody (E : Env) (rec : Rec) (A : Alg R) (f : FuncId) (args : List AV) (h : Heap) (k : AV → Heap → R) : R := bBody E.P rec A f args h k (E.P.funcs[f]?)
def evStep (E : Env) (rec : Rec) (A : Alg R) (t : Task R) : R := match t with
  | .code c a h k => evCode rec A c a h k
  | .loop c a h k => rec R A (.code c a h (kLoop rec A c k))
  | .ops all rest a h k => evOps E rec A all rest a h k
  | .dops all rest pend a h k => evDops E rec A all rest pend a h k
  | .call f args h k => evCall E rec A f args h k
  | .body f args h k => evBody E rec A f args h k
end
def evNo (R : Type) (A : Alg R) (_ : Task R) : R := A.bad
def evS (E : Env) (_ : Nat) (rec : Rec) (R : Type) (A : Alg R) (t : Task R) : R := evStep E rec A t
def ev (E : Env) (n : Nat) : Rec := Nat.rec (motive := fun _ => Rec) evNo (evS E) n

end
end Go.Ev
