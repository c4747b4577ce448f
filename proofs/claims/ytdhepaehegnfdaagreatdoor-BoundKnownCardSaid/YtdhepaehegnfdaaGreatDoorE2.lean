import Derived.Test.YtdhepaehegnfdaaGreatDoorE1
set_option linter.unusedVariables false
namespace Go.Ev
open Go
noncomputable section
inductive Ext where
 | casI (k : IntKind) | loadI (k : IntKind) | storeT | addI (k : IntKind) | raceOff | raceOn | raceAcq | raceRel | ident | count | indexByte | mapsClone | makeNoZero (t : TypeId) | overlaps (t r : TypeId)
inductive FK where
 | bin (op : BinOp) | un (op : UnOp) | conv (d : TypeId) | len | max | min | slc
 deriving DecidableEq
structure LHd where
 id : Nat
 s0 : List SX
 v0 : Nat
 fv : List SX
inductive VT where
 | bad
 | ite (e : SX) (a b : VT)
 | need (e : SX) (x : VT)
 | ret (i : Nat) (out : List SX)
 | loop (hd : LHd) (body : VT) (ks : List VT)
 | both (a b : VT)
 deriving Inhabited
inductive Ex where
 | norm | exit (id : Nat) | ret
structure StP where
 slots : List (Nat × AV)
 blks : List (Nat × Option Blk)
 next : Nat
structure OwnP where
 slot : Nat
 blk : Nat
 elem : Nat
 sig : List CT
 cell : Option (Nat × Nat)
structure LSpec where
 id : Nat
 owns : List OwnP
 v0 : Nat
 fv : List SX
 dead : List Nat
 head : StP
 exits : List (Ex × StP)
structure Fr where
 tm : TF
 nt : Nat
 pc : List (SX × Bool)
 fn : FuncId
 ds : List ADef
 ro : Option Nat
def Fr.slot (a : Fr) (t : Nat) : AV := (ck5 t).g a.tm
def bs3 (d : Nat) (v : AV) (tm : TF) (nt : Nat) (pc : List (SX × Bool)) (fn : FuncId) (ds : List ADef) (ro : Option Nat) : Fr := bif Nat.blt d nt then ⟨tm.set d v, nt, pc, fn, ds, ro⟩ else ⟨tm, nt, pc, fn, ds, ro⟩
def cz3 (p : SX × Bool) (tm : TF) (nt : Nat) (pc : List (SX × Bool)) (fn : FuncId) (ds : List ADef) (ro : Option Nat) : Fr := ⟨tm, nt, p :: pc, fn, ds, ro⟩
def cl0 (tm : TF) (nt : Nat) (pc : List (SX × Bool)) (fn : FuncId) (ds : List ADef) (ro : Option Nat) : Fr := ⟨tm, nt, [], fn, ds, ro⟩
def cz4 (x : Option Nat) (tm : TF) (nt : Nat) (pc : List (SX × Bool)) (fn : FuncId) (ds : List ADef) (ro : Option Nat) : Fr := ⟨tm, nt, pc, fn, ds, x⟩
def Fr.back (a : Fr) (x : Option Nat) : Fr := Fr.rec (cz4 x) a
def cz5 (m : List ADef) (tm : TF) (nt : Nat) (pc : List (SX × Bool)) (fn : FuncId) (ds : List ADef) (ro : Option Nat) : Fr := ⟨tm, nt, pc, fn, m ++ ds, ro⟩
def Fr.mark (a : Fr) (m : List ADef) : Fr := Fr.rec (cz5 m) a
def Fr.clear (a : Fr) : Fr := Fr.rec cl0 a
def Fr.cond (a : Fr) (p : SX × Bool) : Fr := Fr.rec (cz3 p) a
def bs4 (p : Prim) (l : List SX) (d : Int) : Option Bool := match p, l with
 | .imin, [_, .ci c] => bif az5 c d then some true else none
 | _, _ => none
def bs5 (p : Prim) (l : List SX) : Option Bool := match p, l with
 | .cmp .lss, [.op q x, .ci d] => bs4 q x d
 | _, _ => none
def cv5 (e : SX) : Option Bool := match e with
 | .op p l => bs5 p l
 | _ => none
def ak5 (e : SX) : List (SX × Bool) → Option Bool
 | [] => cv5 e
 | p :: r => bif SX.beq e p.1 then some p.2 else ak5 e r
def Fr.put (a : Fr) (dst : Option Tmp) (v : AV) : Fr :=
 match dst with
 | none => a
 | some d => Fr.rec (bs3 d v) a
def Fr.ev (a : Fr) : Operand → Option AV
 | .tmp t => some (a.slot t)
 | .const v => aZ3 v
 | .global g => some (.glob g)
 | .func f => some (.func (.func f) [] [])
inductive Res where
 | val (v : AV) (h : Heap)
 | need (e : SX) (v : AV) (h : Heap)
 | cho (e : SX) (v : AV) (l : List AV) (h : Heap)
 | enter (f : FuncId) (args : List AV)
 | choice (l : List (AV × Heap))
 | yield (l : Nat) (args : List AV)
 | defer (d : ADef)
 | bad
structure Env where
 P : Program
 ext : FuncId → Option Ext
 amb : FuncId → Bool
 caps : FuncId → Bool
 hook : FuncId → List AV → Heap → Res
 fact : FK → List AV → Option AV
 lspec : FuncId → Nat → Fr → Heap → Option LSpec
def evs (ρ : Operand → Option AV) : List Operand → Option (List AV)
 | [] => some []
 | x :: r => match ρ x, evs ρ r with
   | some v, some vs => some (v :: vs)
   | _, _ => none
def ay0 (ρ : Operand → Option AV) : List (Nat × Operand) → Option (List (Nat × AV))
 | [] => some []
 | (i, x) :: r => match ρ x, ay0 ρ r with
   | some v, some vs => some ((i, v) :: vs)
   | _, _ => none
def evo (ρ : Operand → Option AV) : Option Operand → Option (Option AV)
 | none => some none
 | some x => (ρ x).map some
def ov (x : Option AV) (h : Heap) : Res := match x with
 | some v => .val v h
 | none => .bad
def oh (x : Option (AV × Heap)) : Res := match x with
 | some (v, h) => .val v h
 | none => .bad
def os (x : Option Heap) : Res := match x with
 | some h => .val .undef h
 | none => .bad
def ak6 (P : Program) (t : TypeId) : Bool := match P.underlying t with
 | some .bool => true
 | some (.int _) => true
 | some .string => true
 | _ => false
def ak7 (P : Program) (t : TypeId) (k : AV) : Bool :=
 match P.underlying t, k with
 | some .bool, .bool _ => true
 | some (.int _), .int _ _ => true
 | some .string, .str _ => true
 | some (.struct fields), .agg cs => fields.all fun f => (U9 P f.type cs f.offset).isSome && ak6 P f.type
 | _, _ => false
def a13 (P : Program) (kt : TypeId) (k : AV) : List Ent → Nat → Option (Option (Nat × Ent))
 | [], _ => some none
 | e :: r, i => match eqE P 10000 kt k e.key with
   | some true => some (some (i, e))
   | some false => a13 P kt k r (i + 1)
   | none => none
def a03 : List Ent → Nat → Ent → List Ent
 | [], _, _ => []
 | _ :: r, 0, x => x :: r
 | e :: r, i + 1, x => e :: a03 r i x
def b95 : List Ent → Nat → List Ent
 | [], _ => []
 | _ :: r, 0 => r
 | e :: r, i + 1 => e :: b95 r i
def bs6 (m : AV) (h : Heap) : Option (List Ent) :=
 match m with
 | .nilm => some []
 | .map r => match h.get r with
   | some (.map es _) => some es
   | _ => none
 | _ => none
def aE9 (P : Program) (t : TypeId) (m k : AV) (ok : Bool) (h : Heap) : Option AV :=
 match P.underlying t with
 | some (.map kt et) => bif ak7 P kt k then
   match bs6 m h with
   | none => none
   | some es => match a13 P kt k es 0 with
     | none => none
     | some (some (_, e)) => some (bif ok then .tup [e.val, .bool true] else e.val)
     | some none => (A6 P et).map fun z => bif ok then .tup [z, .bool false] else z
   else none
 | _ => none
def M4 (P : Program) (t : TypeId) (m k v : AV) (h : Heap) : Option Heap :=
 match P.underlying t, m with
 | some (.map kt _), .map r => bif ak7 P kt k && Nat.ble h.wm r then
   match h.get r with
   | some (.map es c) => match a13 P kt k es 0 with
     | none => none
     | some (some (i, e)) => bif bs2 e.key k then some (h.put r (some (.map (a03 es i ⟨k, v, e.born⟩) c))) else none
     | some none => some (h.put r (some (.map (es ++ [⟨k, v, c⟩]) (c + 1))))
   | _ => none
   else none
 | _, _ => none
def a41 (P : Program) (t : TypeId) (m k : AV) (h : Heap) : Option (AV × Heap) :=
 match P.underlying t, m with
 | some (.map kt et), .map r => bif ak7 P kt k && Nat.ble h.wm r then
   match h.get r with
   | some (.map es c) => match a13 P kt k es 0 with
     | none => none
     | some (some (i, e)) => bif bs2 e.key k then some (.tup [e.val, .int .i64 e.born], h.put r (some (.map (a03 es i ⟨k, e.val, e.born⟩) c))) else none
     | some none => (A6 P et).map fun z => (.tup [z, .int .i64 c], h.put r (some (.map (es ++ [⟨k, z, c⟩]) (c + 1))))
   | _ => none
   else none
 | _, _ => none
def X9 (b : Nat) : List Ent → Nat → Option (Nat × Ent)
 | [], _ => none
 | e :: r, i => bif Nat.beq e.born b then some (i, e) else X9 b r (i + 1)
def S1 (m s v : AV) (h : Heap) : Option Heap :=
 match m, s with
 | .map r, .int _ s => match h.get r, K3 s with
   | some (.map es c), some b => match X9 b es 0 with
     | some (i, e) => bif Nat.ble h.wm r then some (h.put r (some (.map (a03 es i ⟨e.key, v, e.born⟩) c))) else none
     | none => none
   | _, _ => none
 | _, _ => none
def aZ7 (P : Program) (t : TypeId) (m k : AV) (h : Heap) : Option Heap :=
 match P.underlying t, m with
 | some (.map kt _), .map r => bif ak7 P kt k && Nat.ble h.wm r then
   match h.get r with
   | some (.map es c) => match a13 P kt k es 0 with
     | none => none
     | some (some (i, _)) => some (h.put r (some (.map (b95 es i) c)))
     | some none => some (h.put r (some (.map es c)))
   | _ => none
   else none
 | _, _ => none
def b96 (P : Program) (t : TypeId) (x : AV) (h : Heap) : Option (AV × Heap) :=
 match P.underlying t, x with
 | some .string, .str l => some (.ptr h.next 0, h.new (.strIter l 0))
 | some (.map _ _), .nilm => some (.ptr h.next 0, h.new (.mapIter none 0 [] 0))
 | some (.map _ _), .map m => match h.get m with
   | some (.map _ c) => some (.ptr h.next 0, h.new (.mapIter (some m) c [] c))
   | _ => none
 | _, _ => none
def H9 (es : List Ent) (seen : List Nat) : List Ent := es.filter fun e => !(seen.contains e.born)
def cl1 (r m since : Nat) (seen : List Nat) (c : Nat) (h : Heap) (left : List Ent) : Res :=
 match left with
 | [] => .val (.tup [.bool false]) h
 | left => .choice (left.map fun e => (.tup [.bool true, e.key, e.val], h.put r (some (.mapIter (some m) since (seen ++ [e.born]) c))))
def cl2 (r : Nat) (h : Heap) (l : List UInt8) (pos : Nat) (c : Option UInt8) : Res := match c with
 | none => .val (.tup [.bool false]) h
 | some c => bif Nat.ble h.wm r && Nat.blt c.toNat 128 then .val (.tup [.bool true, .int .i64 pos, .int .i32 c.toNat]) (h.put r (some (.strIter l (pos + 1)))) else .bad
def c61 (r : Nat) (h : Heap) (b : Option Blk) : Res := match b with
 | some (.strIter l pos) => cl2 r h l pos l[pos]?
 | _ => .bad
def bs7 (it : AV) (bt2 : Bool) (h : Heap) : Res :=
 match it, bt2 with
 | .ptr r 0, true => c61 r h (h.get r)
 | .ptr r 0, false => match h.get r with
   | some (.mapIter none _ _ _) => .val (.tup [.bool false]) h
   | some (.mapIter (some m) since seen last) => match h.get m with
     | some (.map es c) =>
       bif Nat.ble h.wm r && !(!seen.isEmpty && !es.isEmpty && es.all (fun e => Nat.ble last e.born)) && !((H9 es seen).any (fun e => Nat.ble since e.born)) then cl1 r m since seen c h (H9 es seen) else .bad
     | _ => .bad
   | _ => .bad
 | _, _ => .bad
def b97 : List Nat → Option Nat
 | [] => none
 | [x] => some x
 | _ :: r => b97 r
def b98 (it : AV) (h : Heap) : Option AV :=
 match it with
 | .ptr r 0 => match h.get r with
   | some (.mapIter (some m) _ seen stepped) => match b97 seen, h.get m with
     | some s, some (.map es c) => bif Nat.beq c stepped then (X9 s es 0).map fun x => .tup [x.2.key, x.2.val] else none
     | _, _ => none
   | _ => none
 | _ => none
def b99 (P : Program) (asserted : TypeId) (ok : Bool) : Option AV := bif ok then (A6 P asserted).map fun z => .tup [z, .bool false] else none
def bs8 (ok : Bool) (v : AV) : Option AV := some (bif ok then .tup [v, .bool true] else v)
def S2 (P : Program) (x : AV) (asserted : TypeId) (ok : Bool) : Option AV :=
 match P.underlying asserted with
 | some (.interface _) => none
 | some _ => match x with
   | .nili => b99 P asserted ok
   | .iface t v => bif Nat.beq t asserted then bs8 ok v else b99 P asserted ok
   | _ => none
 | none => none
def ae2 : List AV → Option (List UInt8)
 | [] => some []
 | .int .u8 (.ofNat n) :: r => match ae2 r with
   | some l => bif Nat.blt n 256 then some (UInt8.ofNat n :: l) else none
   | none => none
 | _ => none
def u8T (P : Program) (e : TypeId) : Bool := match P.underlying e with
 | some (.int .u8) => true
 | _ => false
def bs9 (P : Program) (e : TypeId) (l : List UInt8) (h : Heap) : Option (AV × Heap) :=
 bif u8T P e && Nat.ble l.length room then some (.us h.next 0 l.length 1, h.new (.cells e 0 (l.map fun b => .int .u8 b.toNat))) else none
def bt0 (P : Program) (e : TypeId) (x : AV) (h : Heap) : Option (List UInt8) := bif u8T P e then match x with
 | .nils => some []
 | .es _ _ _ => some []
 | .es0 => some []
 | .sl b o n c => (P1 1 n (.sl b o n c) h).bind ae2
 | .us b o n s => (P1 1 n (.us b o n s) h).bind ae2
 | _ => none
 else none
def ah3 (P : Program) (t b o : Nat) (h : Heap) : Option (AV × Heap) := match O9 P t, h.get b with
 | some (_ + 1), some (.cells _ _ cs) => bif Nat.blt o cs.length then some (.ptr b o, h) else none
 | _, _ => none
def ah4 (P : Program) (t b o : Nat) (h : Heap) : Option (AV × Heap) := match o, O9 P t, h.get b with
 | 0, some (n + 1), some (.cells e _ cs) => bif Nat.beq e t && Nat.ble (n + 1) cs.length && aa9 P t then some (.ptr b 0, h) else none
 | _, _, _ => none
def bt1 (P : Program) (s d : TypeId) (x : AV) (h : Heap) : Option (AV × Heap) := match P.underlying s, P.underlying d, x with
 | some .string, some (.slice e), .str l => bs9 P e l h
 | _, _, _ => none
def bk3 (P : Program) (s d : TypeId) (x : AV) (h : Heap) : Option (AV × Heap) :=
 match P.underlying s, P.underlying d, x with
 | some _, some (.int k), .int _ n => some (.int k (a00 k n), h)
 | some _, some .string, .str l => some (.str l, h)
 | some (.slice e), some .string, x => (bt0 P e x h).map fun l => (.str l, h)
 | some (.pointer t), some .unsafePointer, .ptr b o => ah3 P t b o h
 | some .unsafePointer, some (.pointer t), .ptr b o => ah4 P t b o h
 | _, _, _ => none
def j8 (c : Nat) : List UInt8 → Nat
 | [] => 0
 | x :: r => bif Nat.beq x.toNat c then j8 c r + 1 else j8 c r
def aF0 (c : Nat) : List UInt8 → Nat → Option Nat
 | [], _ => none
 | x :: r, i => bif Nat.beq x.toNat c then some i else aF0 c r (i + 1)
def ae3 (c : Nat) (l : List UInt8) : Int := match aF0 c l 0 with
 | some i => (i : Int)
 | none => -1
def cl3 (P : Program) (e : Ext) (args : List AV) (h : Heap) : Option (AV × Heap) :=
 match e, args with
 | .addI k, [.ptr b o, .int _ y] => match h.get b with
   | some (.cells _ _ cs) => match cs[o]? with
     | some (.int k2 n) => if k = k2 then (putCells h b o [.int k (a00 k (n + y))]).map fun h' => (.int k (a00 k (n + y)), h') else none
     | _ => none
   | _ => none
 | .loadI k, [.ptr b o] => match h.get b with
   | some (.cells _ _ cs) => match cs[o]? with
     | some (.int k2 n) => if k = k2 then some (.int k n, h) else none
     | _ => none
   | _ => none
 | .storeT, [.ptr b o, .int k n] => match h.get b with
   | some (.cells _ _ cs) => match cs[o]? with
     | some (.int _ _) => (putCells h b o [.int k n]).map fun h' => (.undef, h')
     | _ => none
   | _ => none
 | .casI k, [.ptr b o, .int _ x, .int k3 y] => match h.get b with
   | some (.cells _ fz cs) => match cs[o]? with
     | some (.int k2 n) => if k = k2 then
      (bif aO8 n x then (putCells h b o [.int k3 y]).map fun h' => (.bool true, h') else bif Nat.ble fz o then some (.bool false, h) else none) else none
     | _ => none
   | _ => none
 | .raceOff, [] => some (.undef, h)
 | .raceOn, [] => some (.undef, h)
 | .raceAcq, [.ptr _ _] => some (.undef, h)
 | .raceRel, [.ptr _ _] => some (.undef, h)
 | .mapsClone, [.iface t (.map r)] => match h.get r with
   | some (.map es c) => some (.iface t (.map h.next), h.new (.map es c))
   | _ => none
 | .ident, [x] => some (x, h)
 | .count, [.str l, .int .u8 c] => (K3 c).bind fun c => bif Nat.blt c 256 then some (.int .i64 (j8 c l : Nat), h) else none
 | .indexByte, [.str l, .int .u8 c] => (K3 c).bind fun c => bif Nat.blt c 256 then some (.int .i64 (ae3 c l), h) else none
 | _, _ => none
def bt2 : AV → Bool
 | .str _ => true
 | _ => false
def cz6 (P : Program) (t : Option TypeDesc) (x : AV) (h : Heap) : Option Nat := match t with
 | some .string => match x with
   | .str l => some l.length
   | _ => none
 | some (.slice _) => bif bt2 x then none else ae1 x
 | some (.map _ _) => match x with
   | .nilm => some 0
   | .map r => match h.get r with
     | some (.map es _) => some es.length
     | _ => none
   | _ => none
 | _ => none
def az8 (P : Program) (elem : TypeId) (b o n : Nat) (h : Heap) : Option (AV × Heap) := match n with
 | 0 => some (.undef, h)
 | n => match A6 P elem with
   | some z => bif Nat.blt 0 z.cells.length then (putCells h b o (rep n z.cells)).map fun h' => (.undef, h') else none
   | none => none
def bt3 (P : Program) (t : Option TypeDesc) (x : AV) (h : Heap) : Option (AV × Heap) := match t with
 | some (.slice elem) => match x with
   | .nils => some (.undef, h)
   | .sl b o n _ => az8 P elem b o n h
   | .us b o n _ => az8 P elem b o n h
   | _ => none
 | some (.map _ _) => match x with
   | .nilm => some (.undef, h)
   | .map r => match h.get r with
     | some (.map _ c) => bif Nat.ble h.wm r then some (.undef, h.put r (some (.map [] c))) else none
     | _ => none
   | _ => none
 | _ => none
def bt4 (P : Program) (argTypes : Array TypeId) (b o n : Nat) (h : Heap) : Option (AV × Heap) := match h.get b, (argTypes[0]?).bind P.underlying with
 | some (.cells e _ cs), some (.pointer pt) => bif Nat.ble h.wm b && Nat.beq e pt && Nat.ble (o + n) cs.length && Nat.ble n room then (match O9 P e, ae2 ((cs.drop o).take n) with
   | some 1, some l => some (.str l, h.put b none)
   | _, _ => none) else none
 | _, _ => none
def aZ8 (x : AV) (h : Heap) : Option (AV × Heap) := match x with
 | .sl b o _ (_ + 1) => some (.ptr b o, h)
 | .us b o (n + 1) sz => bif Nat.blt 0 sz && aZ5 sz (.us b o (n + 1) sz) h then some (.ptr b o, h) else none
 | .nils => some (.nilp, h)
 | _ => none
def cz7 (P : Program) (argTypes : Array TypeId) (p : AV) (n : Option Nat) (h : Heap) : Option (AV × Heap) := match argTypes[0]?, n with
 | some _, some 0 => match p with
   | .nilp => some (.str [], h)
   | .ptr _ _ => some (.str [], h)
   | _ => none
 | some _, some (n + 1) => match p with
   | .ptr b o => bt4 P argTypes b o (n + 1) h
   | _ => none
 | _, _ => none
def cz8 (x : AV) (h : Heap) : Option AV := match x with
 | .nils => some (.int .i64 0)
 | .es0 => some (.int .i64 0)
 | .sl _ _ _ c => some (.int .i64 c)
 | .us b o _ sz => match h.get b with
   | some (.cells _ _ cs) => bif Nat.blt 0 sz && Nat.ble o cs.length then some (.atl ((cs.length - o) / sz)) else none
   | _ => none
 | _ => none
def a42 (P : Program) (b : Builtin) (argTypes : Array TypeId) (args : List AV) (h : Heap) : Option (AV × Heap) :=
 match b, args with
 | .len, [x] => (cz6 P ((argTypes[0]?).bind P.underlying) x h).map fun (n : Nat) => (AV.int .i64 (n : Int), h)
 | .append, [x, y] => aZ6 P argTypes x y h
 | .copy, [x, y] => c60 P argTypes x y h
 | .clear, [x] => bt3 P ((argTypes[0]?).bind P.underlying) x h
 | .delete, [m, k] => match argTypes[0]? with
   | some t => (aZ7 P t m k h).map fun h' => (.undef, h')
   | none => none
 | .unsafeSliceData, [x] => aZ8 x h
 | .unsafeString, [p, .int _ n] => cz7 P argTypes p (K3 n) h
 | .cap, [x] => match (argTypes[0]?).bind P.underlying with
   | some (.slice _) => (cz8 x h).map fun v => (v, h)
   | _ => none
 | .max, [.int k x, .int _ y] => some (.int k (bif az5 x y then y else x), h)
 | .min, [.int k x, .int _ y] => some (.int k (bif az5 y x then y else x), h)
 | _, _ => none
def cj4 (x : AV) : Option (Nat × Nat) := match x with
 | .sl b o _ _ => some (b, o)
 | .us b o _ _ => some (b, o)
 | _ => none
def c62 (a b : Option (Nat × Nat)) (h : Heap) : Bool := match a, b with
 | some p, some q => !(Nat.beq p.1 q.1) && (match h.get p.1, h.get q.1 with
   | some (.cells _ fz cs), some (.cells _ _ _) => Nat.ble fz p.2 && Nat.blt p.2 cs.length
   | _, _ => false)
 | _, _ => false
def bk4 (t : TypeId) (P : Program) (args : List AV) (h : Heap) : Res := match args with
 | [x, y] => match P.underlying t with
   | some (.slice e) => match O9 P e with
     | some _ => bif c62 (cj4 x) (cj4 y) h then .choice [(.bool false, h), (.bool true, h)] else .bad
     | none => .bad
   | _ => .bad
 | _ => .bad
def cE9 (P : Program) (e : Ext) (args : List AV) (h : Heap) : Res := match e with
 | .overlaps t _ => bk4 t P args h
 | e => oh (cl3 P e args h)
def bk5 (F : SX → SX → SX) (s : SX) (c : Option Nat) (h : Heap) : Res := match c with
 | some c => bif Nat.blt c 256 then .val (.oint .i64 (F s (.ci c))) h else .bad
 | none => .bad
def cl4 : Int := 281474976710656
def cz9 (P : Program) (t : TypeId) (x : Option (IntKind × SX)) (h : Heap) : Res := match x, P.underlying t with
 | some (.i64, n), some (.slice e) => bif Nat.blt h.next 65536 then .need (.op .and [.op (.cmp .leq) [.ci 0, n], .op (.cmp .leq) [n, .ci cl4]]) (.ous h.next n 1) (h.new (.arr e [.int .u8] (.op .row []))) else .bad
 | _, _ => .bad
def bP4 : AV → Option (IntKind × SX)
 | .int k n => some (k, .ci n)
 | .oint k e => some (k, e)
 | _ => none
def cl5 (P : Program) (e : Ext) (args : List AV) (h : Heap) : Res := match e, args with
 | .count, [.ostr s, .int .u8 c] => bk5 (fun s c => .op .scnt [s, c]) s (K3 c) h
 | .indexByte, [.ostr s, .int .u8 c] => bk5 (fun s c => .op .sidx [s, c]) s (K3 c) h
 | .makeNoZero t, [x] => cz9 P t (bP4 x) h
 | _, _ => .bad
def orY (r s : Res) : Res := match r with
 | .bad => s
 | r => r
def aP2 (E : Env) (f : FuncId) (args : List AV) (h : Heap) : Res :=
 match E.P.funcs[f]? with
 | none => .bad
 | some fn => match fn.body with
   | some _ => .enter f args
   | none => match E.ext f with
     | some e => orY (cE9 E.P e args h) (cl5 E.P e args h)
     | none => .bad
def ab0 (P : Program) (t : TypeId) (name : String) : Option FuncId :=
 match P.info? t with
 | some i => match i.methods.find? (·.name == name) with
   | some m => match m.path.toList with
     | [] => match m.func, P.underlying t with
       | some (f, true), some (.pointer _) => some f
       | some (_, _), some (.pointer _) => none
       | some (f, false), some _ => some f
       | _, _ => none
     | _ => none
   | none => none
 | none => none
def ah5 (E : Env) (name : String) (first args : List AV) (h : Heap) : Res := match first with
 | .iface t v :: rest => match ab0 E.P t name with
   | some g => aP2 E g (v :: (rest ++ args)) h
   | none => .bad
 | _ => .bad
def aF1 (E : Env) (f : AV) (args : List AV) (h : Heap) : Res :=
 match f with
 | .func (.func f) first cap => aP2 E f (first ++ args ++ cap) h
 | .func (.method name) first _ => ah5 E name first args h
 | .yield l => .yield l args
 | _ => .bad
def a43 (x : AV) : Option AV :=
 match x with
 | .nilp | .nili | .nilf => none
 | .opq _ => none
 | .any => none
 | .func (.method _) _ _ => none
 | x => some x
def orF (E : Env) (x : Option AV) (k : FK) (vs : List AV) : Option AV := match x with
 | some v => some v
 | none => E.fact k vs
def aZ9 (ρ : Operand → Option AV) (a b : Operand) (h : Heap) (c : Option AV) : Res := match c with
 | some (.bool t) => ov (bif t then ρ a else ρ b) h
 | _ => .bad
def c11 (e : TypeId) (h : Heap) (v : Option AV) : Res := match v with
 | some z => oh (aa7 e z h)
 | none => .bad
def ba0 (P : Program) (t : TypeId) (h : Heap) (ps : Option (List (Nat × AV))) : Res := match ps with
 | some ps => ov (bs0 P t ps) h
 | none => .bad
def F8 (P : Program) (t n : Nat) (h : Heap) (ps : Option (List (Nat × AV))) : Res := match ps with
 | some ps => oh (D2 P t n ps h)
 | none => .bad
def c63 (P : Program) (t : TypeId) (h : Heap) (a : Option AV) : Res := match a with
 | some a => ov (br9 P t a h) h
 | none => .bad
def bt5 (P : Program) (t : TypeId) (h : Heap) (a v : Option AV) : Res := match a with
 | some a => match v with
   | some v => os (aP0 P t a v h)
   | none => .bad
 | none => .bad
def aF2 (P : Program) (h : Heap) (name : String) (first cap : List AV) : Res := match first with
 | .iface t v :: rest => match ab0 P t name with
   | some _ => .val (.func (.method name) (.iface t v :: rest) cap) h
   | none => .bad
 | _ => .bad
def cj5 (P : Program) (h : Heap) (a : Option AV) : Res := match a with
 | some (.func (.method name) first cap) => aF2 P h name first cap
 | some a => ov (a43 a) h
 | none => .bad
def cj6 (E : Env) (op : BinOp) (t : TypeId) (x y : Operand) (h : Heap) (a b : Option AV) : Res := match a with
 | some a => match b with
   | some b => bif a12 E.P op t x y a b then ov (orF E (cv3 E.P op t a b) (.bin op) [a, b]) h else .bad
   | none => .bad
 | none => .bad
def sUn (E : Env) (op : UnOp) (h : Heap) (a : Option AV) : Res := match a with
 | some a => ov (orF E (unE op a) (.un op) [a]) h
 | none => .bad
def bk6 (E : Env) (s d : TypeId) (h : Heap) (a : Option AV) : Res := match a with
 | some a => match bk3 E.P s d a h with
   | some r => .val r.1 r.2
   | none => match bt1 E.P s d a h with
     | some r => .choice [r]
     | none => ov (E.fact (.conv d) [a]) h
 | none => .bad
def az9 (P : Program) (t : TypeId) (h : Heap) (a : Option AV) : Res := match a with
 | some v => match P.underlying t with
   | some (.interface _) => .bad
   | some _ => .val (.iface t v) h
   | none => .bad
 | none => .bad
def bk7 (fn : Fn) (h : Heap) (a b : Option (List AV)) : Res := match a with
 | some a => match b with
   | some b => match fn with
     | .yield _ => .bad
     | fn => .val (.func fn a b) h
   | none => .bad
 | none => .bad
def bO5 (P : Program) (t : TypeId) (h : Heap) (r : Option (Option AV)) : Res := match P.underlying t with
 | some (.map _ _) => match r with
   | some none => .val (.map h.next) (h.new (.map [] 0))
   | some (some (.int _ _)) => .val (.map h.next) (h.new (.map [] 0))
   | _ => .bad
 | _ => .bad
def M5 (P : Program) (t : TypeId) (h : Heap) (l c : Option AV) : Res := match l with
 | some l => match c with
   | some c => oh (F7 P t l c h)
   | none => .bad
 | none => .bad
def aA0 (E : Env) (t : TypeId) (h : Heap) (x : Option AV) (lo hi mx : Option (Option AV)) : Res := match x with
 | some x => match lo with
   | some lo => match hi with
     | some hi => match mx with
       | some mx => bif hi.isNone && mx.isSome then .bad else ov (bs1 E.P t x lo hi mx h) h
       | none => .bad
     | none => .bad
   | none => .bad
 | none => .bad
def c12 (P : Program) (t : TypeId) (f : Nat) (h : Heap) (a : Option AV) : Res := match a with
 | some a => ov (b93 P t a f) h
 | none => .bad
def aA1 (P : Program) (t : TypeId) (f : Nat) (h : Heap) (a : Option AV) : Res := match a with
 | some a => ov (X8 P t a f) h
 | none => .bad
def s2 (F : AV → AV → Option AV) (h : Heap) (a b : Option AV) : Res := match a with
 | some a => match b with
   | some b => ov (F a b) h
   | none => .bad
 | none => .bad
def s3h (F : AV → AV → AV → Option Heap) (a b c : Option AV) : Res := match a with
 | some a => match b with
   | some b => match c with
     | some c => os (F a b c)
     | none => .bad
   | none => .bad
 | none => .bad
def s2h (F : AV → AV → Option (AV × Heap)) (a b : Option AV) : Res := match a with
 | some a => match b with
   | some b => oh (F a b)
   | none => .bad
 | none => .bad
def s1h (F : AV → Option (AV × Heap)) (a : Option AV) : Res := match a with
 | some a => oh (F a)
 | none => .bad
def s1r (F : AV → Res) (a : Option AV) : Res := match a with
 | some a => F a
 | none => .bad
def s1 (F : AV → Option AV) (h : Heap) (a : Option AV) : Res := match a with
 | some a => ov (F a) h
 | none => .bad
def ah6 (i : Nat) (x : AV) : Option AV := match x with
 | .tup vs => vs[i]?
 | _ => none
def S3 (E : Env) (b : Builtin) (ts : Array TypeId) (h : Heap) (args : List AV) : Res := match a42 E.P b ts args h with
 | some r => .val r.1 r.2
 | none => match b with
   | .len => ov (E.fact .len args) h
   | .max => ov (E.fact .max args) h
   | .min => ov (E.fact .min args) h
   | _ => .bad
def aP3 (E : Env) (ρ : Operand → Option AV) (c : Call) (h : Heap) (args : Option (List AV)) : Res := match args with
 | none => .bad
 | some args => match c.callee with
   | .builtin b => S3 E b c.argTypes h args
   | .invoke rc name => s1r (fun v => ah5 E name [v] args h) (ρ rc)
   | .value f => s1r (fun f => aF1 E f args h) (ρ f)
def bt6 (args : List AV) (f : AV) : Res := match f with
 | .func (.func g) first cap => .defer (.fn g cap (first ++ args))
 | _ => .bad
def aP4 (ρ : Operand → Option AV) (c : Call) (args : Option (List AV)) : Res := match args with
 | none => .bad
 | some args => match c.callee with
   | .value f => s1r (bt6 args) (ρ f)
   | _ => .bad
def a44 (E : Env) (ρ : Operand → Option AV) (o : Oper) (h : Heap) : Res :=
 match o.op with
 | .move x => ov (ρ x) h
 | .assign x => ov (ρ x) h
 | .pick c a b => aZ9 ρ a b h (ρ c)
 | .alloc e => c11 e h (A6 E.P e)
 | .box e x => c11 e h (ρ x)
 | .build t ps => ba0 E.P t h (ay0 ρ ps.toList)
 | .buildSlice t n ps => F8 E.P t n h (ay0 ρ ps.toList)
 | .load t a => c63 E.P t h (ρ a)
 | .store t a x => bt5 E.P t h (ρ a) (ρ x)
 | .nilCheck x => cj5 E.P h (ρ x)
 | .binOp op t x y _ => cj6 E op t x y h (ρ x) (ρ y)
 | .unOp op _ x => sUn E op h (ρ x)
 | .convert s d x => bk6 E s d h (ρ x)
 | .makeInterface t x => az9 E.P t h (ρ x)
 | .makeFunc fn first cap => bk7 fn h (evs ρ first.toList) (evs ρ cap.toList)
 | .makeMap t r => bO5 E.P t h (evo ρ r)
 | .makeSlice t l c => M5 E.P t h (ρ l) (ρ c)
 | .slice t x lo hi mx => aA0 E t h (ρ x) (evo ρ lo) (evo ρ hi) (evo ρ mx)
 | .fieldAddr s x f => aA1 E.P s f h (ρ x)
 | .field t x f => c12 E.P t f h (ρ x)
 | .indexAddr t x i => s2 (aa8 E.P t) h (ρ x) (ρ i)
 | .index t x i => s2 (b94 E.P t) h (ρ x) (ρ i)
 | .lookup t x i ok => s2 (fun a i => aE9 E.P t a i ok h) h (ρ x) (ρ i)
 | .mapUpdate t m k x => s3h (fun m k v => M4 E.P t m k v h) (ρ m) (ρ k) (ρ x)
 | .insert t m k x => s3h (fun m k v => M4 E.P t m k v h) (ρ m) (ρ k) (ρ x)
 | .mapEntry t m k => s2h (fun m k => a41 E.P t m k h) (ρ m) (ρ k)
 | .entryStore _ m s x => s3h (fun m s v => S1 m s v h) (ρ m) (ρ s) (ρ x)
 | .range t x => s1h (fun a => b96 E.P t a h) (ρ x)
 | .next it s => s1r (fun a => bs7 a s h) (ρ it)
 | .entry it => s1 (fun a => b98 a h) h (ρ it)
 | .typeAssert x _ t ok => s1 (fun a => S2 E.P a t ok) h (ρ x)
 | .extract t i => s1 (ah6 i) h (ρ t)
 | .call c => aP3 E ρ c h (evs ρ c.args.toList)
 | .defer c => aP4 ρ c (evs ρ c.args.toList)
 | _ => .bad
def ay1 : AV → Option (IntKind × SX)
 | .int k n => some (k, .ci n)
 | .oint k e => some (k, e)
 | _ => none
def aZ0 : AV → Option SX
 | .str l => some (.cs l)
 | .ostr e => some e
 | _ => none
def b00 : AV → Option SX
 | .bool b => some (.cb b)
 | .obool e => some e
 | _ => none
def cv6 (op : BinOp) (k k' : IntKind) (a b : SX) (h : Heap) : Res := match op with
 | .shl => .need (.op (.cmp .leq) [.ci 0, b]) (.oint k (.op (.ar .shl k) [a, b])) h
 | .shr => .need (.op (.cmp .leq) [.ci 0, b]) (.oint k (.op (.ar .shr k) [a, b])) h
 | .quo => if k = k' then .need (.op (.cmp .neq) [b, .ci 0]) (.oint k (.op (.ar .quo k) [a, b])) h else .bad
 | .rem => if k = k' then .need (.op (.cmp .neq) [b, .ci 0]) (.oint k (.op (.ar .rem k) [a, b])) h else .bad
 | .add | .sub | .mul | .and | .or | .xor | .andNot => if k = k' then .val (.oint k (.op (.ar op k) [a, b])) h else .bad
 | .eql | .neq | .lss | .leq | .gtr | .geq => if k = k' then .val (.obool (.op (.cmp op) [a, b])) h else .bad
def bO6 : Int := 4294967296
def c13 (a b : SX) : SX := .op .iadd [a, b]
def cv7 (op : BinOp) (a b : SX) (h : Heap) : Res := match op with
 | .eql | .neq | .lss | .leq | .gtr | .geq => .val (.obool (.op (.scmp op) [a, b])) h
 | .add => .need (.op (.cmp .lss) [c13 (.op .slen [a]) (.op .slen [b]), .ci bO6]) (.ostr (.op .cat [a, b])) h
 | _ => .bad
def bk8 (P : Program) (t : TypeId) : Bool := match P.underlying t with
 | some .bool => true
 | _ => false
def c64 (P : Program) (op : BinOp) (t : TypeId) (a b : SX) (h : Heap) : Res := match op with
 | .eql => bif bk8 P t then .val (.obool (.op .beq [a, b])) h else .bad
 | .neq => bif bk8 P t then .val (.obool (.op .not [.op .beq [a, b]])) h else .bad
 | _ => .bad
def ax7 (a b : SX) : SX := match a with
 | .cb true => b
 | _ => match b with
   | .cb true => a
   | _ => .op .and [a, b]
def Q8 (P : Program) (ih : TypeId → AV → AV → Option SX) (xs ys : List AV) : List Field → Option SX
 | [] => some (.cb true)
 | f :: r => bif f.name == "_" then Q8 P ih xs ys r else match U9 P f.type xs f.offset, U9 P f.type ys f.offset with
   | some a, some b => match ih f.type a b with
     | some e => match Q8 P ih xs ys r with
       | some e' => some (ax7 e e')
       | none => none
     | none => none
   | _, _ => none
def c14 (k k' : IntKind) (a b : SX) : Option SX := if k = k' then some (.op (.cmp .eql) [a, b]) else none
def b01 (P : Program) (ih : TypeId → AV → AV → Option SX) (t : TypeId) (x y : AV) : Option SX :=
 match P.underlying t with
 | some .bool => match b00 x, b00 y with
   | some a, some b => some (.op .beq [a, b])
   | _, _ => none
 | some (.int _) => match ay1 x, ay1 y with
   | some (k, a), some (k', b) => c14 k k' a b
   | _, _ => none
 | some .string => match aZ0 x, aZ0 y with
   | some a, some b => some (.op (.scmp .eql) [a, b])
   | _, _ => none
 | some (.struct fields) => match x, y with
   | .agg xs, .agg ys => bif P.stoodInHeld t then none else Q8 P ih xs ys fields.toList
   | _, _ => none
 | _ => none
def cA0 (_ : TypeId) (_ _ : AV) : Option SX := none
def eqS (P : Program) (n : Nat) : TypeId → AV → AV → Option SX := Nat.rec (motive := fun _ => TypeId → AV → AV → Option SX) cA0 (fun _ => b01 P) n
def aA2 (P : Program) (t : TypeId) : Bool := match P.underlying t with
 | some (.slice _) => true
 | _ => false
def cl6 (P : Program) (op : BinOp) (t : TypeId) (len : SX) (y : AV) (h : Heap) : Res := match y with
 | .nils => bif aA2 P t then (match op with
   | .eql => .cho (.op (.cmp .lss) [.ci 0, len]) (.bool false) [.bool true, .bool false] h
   | .neq => .cho (.op (.cmp .lss) [.ci 0, len]) (.bool true) [.bool true, .bool false] h
   | _ => .bad) else .bad
 | _ => .bad
def cv8 (P : Program) (op : BinOp) (t : TypeId) (x y : AV) (h : Heap) : Res := match x with
 | .agg cs => match eqS P 10000 t (.agg cs) y with
   | some e => match op with
     | .eql => .val (.obool e) h
     | .neq => .val (.obool (.op .not [e])) h
     | _ => .bad
   | none => .bad
 | .osl _ _ len _ => cl6 P op t len y h
 | .ous _ len _ => cl6 P op t len y h
 | _ => .bad
def cA1 (P : Program) (op : BinOp) (t : TypeId) (x y : AV) (h : Heap) : Res :=
 match ay1 x, ay1 y with
 | some (k, a), some (k', b) => cv6 op k k' a b h
 | _, _ => match aZ0 x, aZ0 y with
   | some a, some b => cv7 op a b h
   | _, _ => match b00 x, b00 y with
     | some a, some b => c64 P op t a b h
     | _, _ => cv8 P op t x y h
def bP5 (P : Program) (op : BinOp) (t : TypeId) (x y : Operand) (h : Heap) (a b : Option AV) : Res := match a with
 | some a => match b with
   | some b => bif a12 P op t x y a b then cA1 P op t a b h else .bad
   | none => .bad
 | none => .bad
def yUn (op : UnOp) (h : Heap) (a : Option AV) : Res := match a with
 | some (.obool e) => match op with
   | .not => .val (.obool (.op .not [e])) h
   | _ => .bad
 | some (.oint k e) => match op with
   | .neg => .val (.oint k (.op (.un .neg k) [e])) h
   | .xor => .val (.oint k (.op (.un .xor k) [e])) h
   | _ => .bad
 | _ => .bad
def cv9 (e x y : SX) : SX := match x, y with
 | .cb true, .cb false => e
 | .cb false, .cb true => .op .not [e]
 | x, y => .op .ite [e, x, y]
def bt7 (h : Heap) (e : SX) (a b : Option AV) : Res := match a.bind b00, b.bind b00 with
 | some x, some y => .val (.obool (cv9 e x y)) h
 | _, _ => .bad
def bt8 (h : Heap) (e : SX) (a b : Option AV) : Res := match a, b with
 | some (.tup []), some y => .need (.op .not [e]) y h
 | some x, some (.tup []) => .need e x h
 | a, b => bt7 h e a b
def bP6 (h : Heap) (c a b : Option AV) : Res := match c with
 | some (.obool e) => bt8 h e a b
 | _ => .bad
def bk9 (c : CT) (e : SX) : AV := match c with
 | .int k => .oint k e
 | .str => .ostr e
 | .bool => .obool e
def bP7 (sig : List CT) (l idx : SX) : Nat → Nat → List AV
 | _, 0 => []
 | j, n + 1 => bk9 (sig.getD j .bool) (.op .lget [l, idx, .ci j]) :: bP7 sig l idx (j + 1) n
def aP5 (c : CT) (v : AV) : Option SX := match c with
 | .int k => match ay1 v with
   | some (k', e) => if k = k' then some e else none
   | none => none
 | .str => aZ0 v
 | .bool => b00 v
def v8 : List CT → List AV → Option (List SX)
 | [], [] => some []
 | c :: cs, v :: vs => match aP5 c v, v8 cs vs with
   | some e, some es => some (e :: es)
   | _, _ => none
 | _, _ => none
def aP6 (idx len : SX) : SX := .op .and [.op (.cmp .leq) [.ci 0, idx], .op (.cmp .lss) [idx, len]]
def bP8 (P : Program) (t : TypeId) (h : Heap) (a : Option AV) : Res := match a with
 | some (.optr b idx j sz) => match h.get b with
   | some (.arr _ sig l) => match cv2 P t, O9 P t with
     | some true, some n => bif Nat.beq sig.length sz && Nat.ble (j + n) sz then .need (aP6 idx (.op .llen [l])) (.agg (bP7 sig l idx j n)) h else .bad
     | some false, some _ => bif Nat.beq sig.length sz && Nat.blt j sz then .need (aP6 idx (.op .llen [l])) (bk9 (sig.getD j .bool) (.op .lget [l, idx, .ci j])) h else .bad
     | _, _ => .bad
   | _ => .bad
 | _ => .bad
def cw0 (a b : SX) : SX := match a with
 | .ci 0 => b
 | a => .op .iadd [a, b]
def c65 (a b : SX) : SX := match a with
 | .op (.cmp .leq) [.ci 0, .ci 0] => b
 | a => .op .and [a, b]
def Y0 (P : Program) (t : TypeId) (h : Heap) (x i : Option AV) : Res := match P.underlying t with
 | some (.slice elem) => match O9 P elem with
   | some s => match i.bind ay1 with
     | some (_, i) => match x with
       | some (.osl b off len sz) => bif Nat.beq s sz then .need (c65 (.op (.cmp .leq) [.ci 0, off]) (aP6 i len)) (.optr b (cw0 off i) 0 sz) h else .bad
       | some (.ous b len sz) => bif Nat.beq s sz then .need (aP6 i len) (.optr b i 0 sz) h else .bad
       | _ => .bad
     | none => .bad
   | none => .bad
 | _ => .bad
def Y1 (P : Program) (s : TypeId) (f : Nat) (h : Heap) (a : Option AV) : Res := match P.underlying s, a with
 | some (.struct fields), some (.optr b idx j sz) => match fields[f]? with
   | some f => match O9 P f.type with
     | some (_ + 1) => .val (.optr b idx (j + f.offset) sz) h
     | _ => .bad
   | none => .bad
 | _, _ => .bad
def ba1 (P : Program) (t : TypeId) (h : Heap) (x i : Option AV) : Res := match P.underlying t, x.bind aZ0, i.bind ay1 with
 | some .string, some s, some (_, i) => .need (aP6 i (.op .slen [s])) (.oint .u8 (.op .sat [s, i])) h
 | _, _, _ => .bad
def br4 (k : IntKind) (e : SX) : AV := match e with
 | .ci n => .int k n
 | e => .oint k e
def cw1 (P : Program) (t : Option TypeDesc) (h : Heap) (x : AV) : Res := match t with
 | some .string => match x with
   | .ostr e => .val (.oint .i64 (.op .slen [e])) h
   | _ => .bad
 | some (.slice _) => match x with
   | .osl _ _ len _ => .need (.op (.cmp .leq) [.ci 0, len]) (br4 .i64 len) h
   | .ous _ len _ => .need (.op (.cmp .leq) [.ci 0, len]) (br4 .i64 len) h
   | _ => .bad
 | _ => .bad
def yMM (b : Builtin) (x y : AV) (h : Heap) : Res := match ay1 x, ay1 y with
 | some (k, a), some (_, c) => match b with
   | .max => .val (.oint k (.op .imax [a, c])) h
   | .min => .val (.oint k (.op .imin [a, c])) h
   | _ => .bad
 | _, _ => .bad
def cH7 : AV → Option CT
 | .int k _ => some (.int k)
 | .oint k _ => some (.int k)
 | .str _ => some .str
 | .ostr _ => some .str
 | .bool _ => some .bool
 | .obool _ => some .bool
 | _ => none
def bl0 : List AV → Option (List CT)
 | [] => some []
 | a :: r => match cH7 a, bl0 r with
   | some c, some cs => some (c :: cs)
   | _, _ => none
def a14 (sig : List CT) (sz : Nat) : Nat → List AV → Option (List SX)
 | 0, _ => some []
 | n + 1, cs => match v8 sig (cs.take sz), a14 sig sz n (cs.drop sz) with
   | some e, some r => some (.op .row e :: r)
   | _, _ => none
def c66 (off len l : SX) : SX := .op .and [.op .and [.op (.cmp .leq) [.ci 0, off], .op (.cmp .leq) [.ci 0, len]], .op .and [.op (.cmp .leq) [.op .iadd [off, len], .op .llen [l]], .op .bok [.op .lsub [l, off, .op .iadd [off, len]]]]]
def a47 (off len : SX) (sz : Nat) (x : Option Blk) (h : Heap) : Res := match x with
 | some (.arr _ [.int .u8] l) => bif Nat.beq sz 1 then .need (c66 off len l) (.ostr (.op .bstr [.op .lsub [l, off, .op .iadd [off, len]]])) h else .bad
 | _ => .bad
def a48 (o n : Nat) (x : Option Blk) (h : Heap) : Res := match x with
 | some (.cells _ _ cs) => bif Nat.ble (o + n) cs.length then (match a14 [.int .u8] 1 n ((cs.drop o).take n) with
   | some rs => .need (.op .bok [.op .row rs]) (.ostr (.op .bstr [.op .row rs])) h
   | none => .bad) else .bad
 | _ => .bad
def aF3 (a : Option AV) (h : Heap) : Res := match a with
 | some (.osl b off len sz) => a47 off len sz (h.get b) h
 | some (.ous b len sz) => a47 (.ci 0) len sz (h.get b) h
 | some (.sl b o n _) => a48 o n (h.get b) h
 | some (.us b o n _) => a48 o n (h.get b) h
 | _ => .bad
def aF4 (e : TypeId) (a : Option AV) (h : Heap) : Res := match a with
 | some (.ostr s) => bif Nat.blt h.next 65536 then .choice [(.ous h.next (.op .llen [.op .sbytes [s]]) 1, h.new (.arr e [.int .u8] (.op .sbytes [s])))] else .bad
 | _ => .bad
def bP9 (P : Program) (s d : TypeId) (h : Heap) (a : Option AV) : Res := match P.underlying s, P.underlying d with
 | some _, some (.int k) => match a with
   | some (.oint _ e) => .val (.oint k (.op (.conv k) [e])) h
   | _ => .bad
 | some (.slice e), some .string => bif u8T P e then aF3 a h else .bad
 | some .string, some (.slice e) => bif u8T P e then aF4 e a h else .bad
 | some _, some .string => match a with
   | some (.ostr e) => .val (.ostr e) h
   | _ => .bad
 | _, _ => .bad
def B6 : List CT → List CT → Bool
 | [], [] => true
 | a :: x, b :: y => decide (a = b) && B6 x y
 | _, _ => false
def eqN (a b : SX) : SX := bif SX.beq a b then .cb true else .op (.cmp .eql) [a, b]
def c67 (sz : Nat) (y : AV) (h : Heap) : Option (List CT × SX × SX) := match y with
 | .ous b len s => match h.get b with
   | some (.arr _ sig l) => bif Nat.beq s sz && Nat.beq sig.length sz then some (sig, eqN len (.op .llen [l]), l) else none
   | _ => none
 | .osl b off len s => match h.get b with
   | some (.arr _ sig l) => bif Nat.beq s sz && Nat.beq sig.length sz then bif SX.beq off (.ci 0) && SX.beq len (.op .llen [l]) then some (sig, .cb true, l) else some (sig, .op .and [.op (.cmp .leq) [.ci 0, off], .op .and [.op (.cmp .leq) [.ci 0, len], .op (.cmp .leq) [.op .iadd [off, len], .op .llen [l]]]], .op .lsub [l, off, .op .iadd [off, len]]) else none
   | _ => none
 | .sl b o n _ => match h.get b with
   | some (.cells _ _ cs) => bif Nat.ble (o + n * sz) cs.length && Nat.blt 0 n then (match bl0 ((cs.drop o).take sz) with
     | some sig => match a14 sig sz n ((cs.drop o).take (n * sz)) with
       | some rs => some (sig, .cb true, .op .row rs)
       | none => none
     | none => none) else none
   | _ => none
 | .us b o n s => match h.get b with
   | some (.cells _ _ cs) => bif Nat.ble (o + n * sz) cs.length && Nat.blt 0 n && Nat.beq s sz then (match bl0 ((cs.drop o).take sz) with
     | some sig => match a14 sig sz n ((cs.drop o).take (n * sz)) with
       | some rs => some (sig, .cb true, .op .row rs)
       | none => none
     | none => none) else none
   | _ => none
 | _ => none
def bt9 (sz : Nat) (y : AV) : Option (List CT × SX × SX) := bif Nat.beq sz 1 then (match aZ0 y with
 | some e => some ([.int .u8], .cb true, .op .sbytes [e])
 | none => none) else none
def a01 : Int := 1000000
def c15 (z : List AV) (y : AV) : Option (List CT × SX × SX) := match ay1 y, bl0 z with
 | some (_, e), some sig => (match v8 sig z with
   | some es => some (sig, .op .and [.op (.cmp .leq) [.ci 0, e], .op (.cmp .leq) [e, .ci a01]], .op .lrep [e, .op .row es])
   | none => none)
 | _, _ => none
def cA2 (P : Program) (yt sz : Nat) (z : List AV) (y : AV) (h : Heap) : Option (List CT × SX × SX) := match P.underlying yt with
 | some (.slice _) => c67 sz y h
 | some .string => bt9 sz y
 | some (.int _) => c15 z y
 | _ => none
def bu0 (elem s : Nat) (sig : List CT) (x : AV) (h : Heap) : Option (AV × Heap) := match x with
 | .sl b o n c => match h.get b with
   | some (.cells e fz cs) => bif Nat.beq e elem && Nat.ble h.wm b && Nat.ble fz o && Nat.ble (o + c * s) cs.length && Nat.ble n c && Nat.beq sig.length s && Nat.blt h.next 65536 then (match a14 sig s n ((cs.drop o).take (n * s)) with
     | some rs => some (.ous h.next (.op .llen [.op .row rs]) s, (h.put b none).new (.arr elem sig (.op .row rs)))
     | none => none) else none
   | _ => none
 | .us b o n s' => match h.get b with
   | some (.cells e fz cs) => bif Nat.beq e elem && Nat.ble h.wm b && Nat.ble fz o && Nat.ble (o + n * s) cs.length && Nat.beq s' s && Nat.beq sig.length s && Nat.blt h.next 65536 && Nat.blt 0 s then (match a14 sig s n ((cs.drop o).take (n * s)) with
     | some rs => some (.ous h.next (.op .llen [.op .row rs]) s, (h.put b none).new (.arr elem sig (.op .row rs)))
     | none => none) else none
   | _ => none
 | .ous b (.ci 0) s' => match h.get b with
   | some (.arr e sg _) => bif Nat.beq e elem && Nat.ble h.wm b && B6 sg sig && Nat.beq s' s && Nat.beq sig.length s && Nat.blt h.next 65536 then some (.ous h.next (.op .llen [.op .row []]) s, (h.put b none).new (.arr elem sig (.op .row []))) else none
   | _ => none
 | _ => none
def bu1 (l y : SX) : SX := match l with
 | .op .row [] => y
 | l => .op .lcat [l, y]
def cl7 (elem s : Nat) (sig : List CT) (nd ly : SX) (x : AV) (h : Heap) : Res := match x with
 | .nils => bif !(Nat.blt h.next 65536) then .bad else .need (ax7 nd (.op (.cmp .leq) [.op .llen [ly], .ci a01])) (.ous h.next (.op .llen [ly]) s) (h.new (.arr elem sig ly))
 | .ous b len sz => match h.get b with
   | some (.arr e sig' l) => bif Nat.beq sz s && Nat.beq e elem && B6 sig' sig && Nat.ble h.wm b && Nat.blt h.next 65536 && !(Nat.beq e a40) then
    .need (ax7 nd (ax7 (eqN len (.op .llen [l])) (.op (.cmp .leq) [.op .llen [bu1 l ly], .ci a01]))) (.ous h.next (.op .llen [bu1 l ly]) s) ((h.put b none).new (.arr elem sig (bu1 l ly))) else .bad
   | _ => .bad
 | _ => .bad
def cl8 (elem s : Nat) (sig : List CT) (nd ly : SX) (x : AV) (h : Heap) (p : Option (AV × Heap)) : Res := match p with
 | some p => cl7 elem s sig nd ly p.1 p.2
 | none => cl7 elem s sig nd ly x h
def b02 (P : Program) (ts : Array TypeId) (x y : AV) (h : Heap) : Res := match (ts[0]?).bind P.underlying, ts[1]? with
 | some (.slice elem), some yt => match P.info? elem, A6 P elem with
     | some i, some z => match cA2 P yt i.size z.cells y h with
       | some (sig, nd, ly) => bif Nat.blt 0 i.size && Nat.beq z.cells.length i.size && Nat.ble i.bytes 1000 && Nat.beq ts.size 2 && Nat.beq sig.length i.size && !(aa9 P elem) then cl8 elem i.size sig nd ly x h (bu0 elem i.size sig x h) else .bad
       | none => .bad
     | _, _ => .bad
 | _, _ => .bad
def aF5 (x : AV) (h : Heap) : Res := match x with
 | .ous b len sz => .need (.op (.cmp .lss) [.ci 0, len]) (.optr b (.ci 0) 0 sz) h
 | _ => .bad
def ay2 (l n : SX) : SX := bif SX.beq n (.op .llen [l]) then l else .op .lsub [l, .ci 0, n]
def ba2 (P : Program) (pt b : Nat) (l n : SX) (e : Nat) (h : Heap) : Res := match P.underlying pt with
 | some (.pointer et) => (match O9 P et with
   | some 1 => bif Nat.beq e et && Nat.ble h.wm b && !(Nat.beq e a40) then .need (.op .and [.op .and [.op (.cmp .lss) [.ci 0, n], .op (.cmp .leq) [n, .ci a01]], .op .and [.op (.cmp .leq) [n, .op .llen [l]], .op .bok [ay2 l n]]]) (.ostr (.op .bstr [ay2 l n])) (h.put b none) else .bad
   | _ => .bad)
 | _ => .bad
def ba3 (P : Program) (ts : Array TypeId) (b : Nat) (n : SX) (x : Option Blk) (h : Heap) : Res := match x, ts[0]? with
 | some (.arr e [.int .u8] l), some pt => ba2 P pt b l n e h
 | _, _ => .bad
def b03 (P : Program) (ts : Array TypeId) (x y : AV) (h : Heap) : Res := match x, ay1 y with
 | .optr b (.ci 0) 0 1, some (_, n) => ba3 P ts b n (h.get b) h
 | _, _ => .bad
def aF6 (P : Program) (b : Nat) (off len : SX) (sz : Nat) (z : List AV) (x : Option Blk) (h : Heap) : Res := match x with
 | some (.arr e sig l) => (match v8 sig z with
   | some es => bif Nat.beq sig.length sz && Nat.blt 0 sz && Nat.ble h.wm b && !(Nat.beq e a40) && !(aa9 P e) then
    .need (.op .and [.op .and [.op (.cmp .leq) [.ci 0, off], .op (.cmp .leq) [.ci 0, len]], .op .and [.op (.cmp .leq) [len, .ci a01], .op (.cmp .leq) [.op .iadd [off, len], .op .llen [l]]]]) .undef (h.put b (some (.arr e sig (.op .lcat [.op .lsub [l, .ci 0, off], .op .lcat [.op .lrep [len, .op .row es], .op .lsub [l, .op .iadd [off, len], .op .llen [l]]]])))) else .bad
   | none => .bad)
 | _ => .bad
def bu2 (P : Program) (t : Option TypeDesc) (x : AV) (h : Heap) : Res := match t with
 | some (.slice elem) => (match A6 P elem with
   | some z => bif aa9 P elem then .bad else (match x with
     | .osl b off len sz => aF6 P b off len sz z.cells (h.get b) h
     | .ous b len sz => aF6 P b (.ci 0) len sz z.cells (h.get b) h
     | _ => .bad)
   | none => .bad)
 | _ => .bad
def c68 (P : Program) (ts : Array TypeId) (x y : AV) (h : Heap) : Res := match (ts[0]?).bind P.underlying with
 | some (.slice elem) => (match O9 P elem, x, y with
   | some _, .ous _ len _, .nils => .need (.op (.cmp .leq) [.ci 0, len]) (.int .i64 0) h
   | _, _, _ => .bad)
 | _ => .bad
def ah7 (P : Program) (b : Builtin) (ts : Array TypeId) (h : Heap) (args : Option (List AV)) : Res := match args with
 | some [x] => match b with
   | .len => cw1 P ((ts[0]?).bind P.underlying) h x
   | .unsafeSliceData => aF5 x h
   | .clear => bu2 P ((ts[0]?).bind P.underlying) x h
   | _ => .bad
 | some [x, y] => match b with
   | .append => b02 P ts x y h
   | .unsafeString => b03 P ts x y h
   | .copy => c68 P ts x y h
   | _ => yMM b x y h
 | _ => .bad
def bQ0 (P : Program) (ρ : Operand → Option AV) (c : Call) (h : Heap) : Res := match c.callee with
 | .builtin b => ah7 P b c.argTypes h (evs ρ c.args.toList)
 | _ => .bad
def V4 (l idx : SX) : Nat → Nat → List SX
 | _, 0 => []
 | j, n + 1 => .op .lget [l, idx, .ci j] :: V4 l idx (j + 1) n
def bu3 (e : Nat) (sig : List CT) (l idx : SX) (b j n : Nat) (h : Heap) (es : Option (List SX)) : Res := match es with
 | some es => .need (aP6 idx (.op .llen [l])) .undef (h.put b (some (.arr e sig (.op .lset [l, idx, .op .row (V4 l idx 0 j ++ (es ++ V4 l idx (j + n) (sig.length - (j + n))))]))))
 | none => .bad
def bu4 (P : Program) (b : Nat) (idx : SX) (j sz n : Nat) (v : AV) (h : Heap) (x : Option Blk) : Res := match x with
 | some (.arr e sig l) => bif Nat.beq sig.length sz && Nat.ble (j + n) sz && v.nt && Nat.beq v.cells.length n && Nat.ble h.wm b && Nat.blt 0 n && !(aa9 P e) && !(Nat.beq e a40) then bu3 e sig l idx b j n h (v8 ((sig.drop j).take n) v.cells) else .bad
 | _ => .bad
def bu5 (P : Program) (t : TypeId) (h : Heap) (a v : Option AV) : Res := match a, v, O9 P t with
 | some (.optr b idx j sz), some v, some n => bu4 P b idx j sz n v h (h.get b)
 | _, _, _ => .bad
def c16 (x : Option (Option AV)) (d : SX) : Option SX := match x with
 | some none => some d
 | some (some v) => (ay1 v).map (·.2)
 | none => none
def cj7 (lo hi n : SX) : SX := ax7 (bif SX.beq lo (.ci 0) then .cb true else .op (.cmp .leq) [.ci 0, lo]) (ax7 (.op (.cmp .leq) [lo, hi]) (bif SX.beq hi n then .cb true else .op (.cmp .leq) [hi, n]))
def c17 (a b : SX) : SX := match b with
 | .ci 0 => a
 | b => .op .isub [a, b]
def bu6 (s : SX) (h : Heap) (lo hi : Option SX) : Res := match lo, hi with
 | some lo, some hi => .need (cj7 lo hi (.op .slen [s])) (.ostr (.op .ssub [s, lo, hi])) h
 | _, _ => .bad
def bu7 (b : Nat) (off len : SX) (sz : Nat) (h : Heap) (lo hi : Option SX) : Res := match lo, hi with
 | some lo, some hi => .need (ax7 (bif SX.beq off (.ci 0) then .cb true else .op (.cmp .leq) [.ci 0, off]) (cj7 lo hi len)) (.osl b (cw0 off lo) (c17 hi lo) sz) h
 | _, _ => .bad
def bu8 (b : Nat) (len : SX) (sz : Nat) (h : Heap) (lo hi : Option SX) : Res := match lo, hi with
 | some lo, some hi => bif SX.beq lo (.ci 0) then .need (cj7 (.ci 0) hi len) (.ous b hi sz) h else .need (cj7 lo hi len) (.osl b lo (c17 hi lo) sz) h
 | _, _ => .bad
def ba4 (P : Program) (t : TypeId) (h : Heap) (x : Option AV) (lo hi mx : Option (Option AV)) : Res := match x, mx with
 | some x, some none => (match P.underlying t with
   | some .string => (match aZ0 x with
     | some s => bu6 s h (c16 lo (.ci 0)) (c16 hi (.op .slen [s]))
     | none => .bad)
   | some (.slice elem) => (match O9 P elem, x with
     | some s, .osl b off len sz => bif Nat.beq s sz then bu7 b off len sz h (c16 lo (.ci 0)) (c16 hi len) else .bad
     | some s, .ous b len sz => bif Nat.beq s sz then bu8 b len sz h (c16 lo (.ci 0)) (c16 hi len) else .bad
     | _, _ => .bad)
   | _ => .bad)
 | _, _ => .bad
def cw2 : List CT → Nat → Nat → SX
 | [], _, _ => .cb true
 | c :: r, i, j => ax7 (match c with
   | .int _ => .op (.cmp .eql) [.va i, .va j]
   | .str => .op (.scmp .eql) [.va i, .va j]
   | .bool => .op .beq [.va i, .va j]) (cw2 r (i + 1) (j + 1))
def ah8 : List CT → Nat → List AV
 | [], _ => []
 | c :: r, i => bk9 c (.va i) :: ah8 r (i + 1)
def aF7 (P : Program) (kt : TypeId) (ks : List CT) : Bool := ak7 P kt (.agg (ah8 ks 0)) && (match eqS P 10000 kt (.agg (ah8 ks 0)) (.agg (ah8 ks ks.length)) with
 | some e => SX.beq e (cw2 ks 0 ks.length)
 | none => false)
def cH8 : AV → Bool
 | .agg _ => true
 | _ => false
def bO7 (ks : List CT) (l : SX) (es : List SX) : SX := .op (.mfind ks) [l, .op .row es]
def aO6 (ks : List CT) (l : SX) (es : List SX) : SX := .op (.cmp .lss) [bO7 ks l es, .op .llen [l]]
def aF8 (ks : List CT) (l : SX) (es : List SX) : List CT → Nat → List SX → List AV
 | c :: cs, j, z :: zs => bk9 c (.op .ite [aO6 ks l es, .op .lget [l, bO7 ks l es, .ci j], z]) :: aF8 ks l es cs (j + 1) zs
 | _, _, _ => []
def bO8 : List AV → AV
 | [v] => v
 | vs => .agg vs
def V5 (vs : List CT) (z : AV) : Bool := match vs with
 | [] => false
 | [_] => z.one
 | _ => cH8 z
def bu9 (P : Program) (kt et : TypeId) (h : Heap) (b : Option Blk) (cs : List AV) (ok : Bool) : Res := match b, A6 P et with
 | some (.marr ks vs l), some z => match v8 ks cs, v8 vs z.cells with
   | some es, some zs => bif aF7 P kt ks && Nat.ble 2 ks.length && V5 vs z then .val (bif ok then .tup [bO8 (aF8 ks l es vs ks.length zs), .obool (aO6 ks l es)] else bO8 (aF8 ks l es vs ks.length zs)) h else .bad
   | _, _ => .bad
 | _, _ => .bad
def aF9 (P : Program) (t : TypeId) (h : Heap) (m k : Option AV) (ok : Bool) : Res := match P.underlying t with
 | some (.map kt et) => match m with
   | some (.map r) => match k with
     | some (.agg cs) => bu9 P kt et h (h.get r) cs ok
     | _ => .bad
   | _ => .bad
 | _ => .bad
def cl9 (ks : List CT) (l : SX) (es xs : List SX) : SX := .op .ite [aO6 ks l es, .op .lset [l, bO7 ks l es, .op .row (es ++ xs)], .op .lcat [l, .op .row [.op .row (es ++ xs)]]]
def bv0 (P : Program) (kt : TypeId) (h : Heap) (r : Nat) (b : Option Blk) (ks vs : List CT) (z : AV) (cs : List AV) (x : AV) : Res := match v8 ks cs, v8 vs x.cells with
 | some es, some xs => bif aF7 P kt ks && Nat.ble 2 ks.length && V5 vs x && Nat.ble h.wm r then (match b with
   | some (.marr ks' vs' l) => bif B6 ks' ks && B6 vs' vs then .val .undef (h.put r (some (.marr ks vs (cl9 ks l es xs)))) else .bad
   | some (.map [] _) => .val .undef (h.put r (some (.marr ks vs (.op .row [.op .row (es ++ xs)]))))
   | _ => .bad) else .bad
 | _, _ => .bad
def ba5 (P : Program) (t : TypeId) (h : Heap) (m k x : Option AV) : Res := match P.underlying t with
 | some (.map kt et) => match m with
   | some (.map r) => match k with
     | some (.agg cs) => match x with
       | some x => match A6 P kt, A6 P et with
         | some zk, some z => match bl0 zk.cells, bl0 z.cells with
           | some ks, some vs => bv0 P kt h r (h.get r) ks vs z cs x
           | _, _ => .bad
         | _, _ => .bad
       | none => .bad
     | _ => .bad
   | _ => .bad
 | _ => .bad
def ak8 (E : Env) (ρ : Operand → Option AV) (o : Oper) (h : Heap) : Res :=
 match o.op with
 | .binOp op t x y _ => bP5 E.P op t x y h (ρ x) (ρ y)
 | .unOp op _ x => yUn op h (ρ x)
 | .convert s d x => bP9 E.P s d h (ρ x)
 | .pick c a b => bP6 h (ρ c) (ρ a) (ρ b)
 | .load t a => bP8 E.P t h (ρ a)
 | .indexAddr t x i => Y0 E.P t h (ρ x) (ρ i)
 | .fieldAddr s x f => Y1 E.P s f h (ρ x)
 | .index t x i => ba1 E.P t h (ρ x) (ρ i)
 | .store t a x => bu5 E.P t h (ρ a) (ρ x)
 | .slice t x lo hi mx => ba4 E.P t h (ρ x) (evo ρ lo) (evo ρ hi) (evo ρ mx)
 | .lookup t m k ok => aF9 E.P t h (ρ m) (ρ k) ok
 | .mapUpdate t m k x => ba5 E.P t h (ρ m) (ρ k) (ρ x)
 | .insert t m k x => ba5 E.P t h (ρ m) (ρ k) (ρ x)
 | .call c => bQ0 E.P ρ c h
 | _ => .bad
def cm0 (r : Res) (s : Res) : Res := match r with
 | .bad => s
 | r => r
def u4 (E : Env) (ρ : Operand → Option AV) (o : Oper) (h : Heap) : Res := cm0 (a44 E ρ o h) (ak8 E ρ o h)
def J5 (o : Oper) : Bool :=
 match o.op with
 | .move _ | .pick .. | .alloc _ | .box .. | .build .. | .buildSlice .. | .load .. | .nilCheck _ | .binOp .. | .unOp .. | .makeInterface .. | .makeFunc ..
 | .makeMap .. | .makeSlice .. | .slice .. | .fieldAddr .. | .field .. | .indexAddr .. | .index .. | .lookup .. | .extract .. | .convert .. | .typeAssert .. => true
 | .call { callee := .builtin .len, .. } | .call { callee := .builtin .cap, .. } | .call { callee := .builtin .min, .. } | .call { callee := .builtin .max, .. } => true
 | _ => false
def t7 (o : Oper) : Bool :=
 match o.op with
 | .alloc _ | .box .. | .buildSlice .. | .makeMap .. | .makeSlice .. => true
 | _ => false
def F9 (e : Edge) : Bool := match e.ground with
 | .textOnly _ | .gcOnly _ => false
 | _ => true
def ak9 (acc : List Nat) : List Edge → Nat
 | [] => 0
 | e :: r => bif F9 e then (2 ^ e.on ||| acc.getD e.on 0) ||| ak9 acc r else ak9 acc r
def bv1 : List Oper → List Nat → Option (List Nat)
 | [], acc => some acc
 | o :: r, acc => bif o.after.toList.all (fun e => !F9 e || Nat.blt e.on acc.length) then bv1 r (acc ++ [ak9 acc o.after.toList]) else none
def c18 : Operand → List Nat
 | .tmp t => [t]
 | _ => []
def E4 (ops : List Oper) (o : Oper) : List Nat :=
 o.op.operands.toList.flatMap c18 ++ (match o.guard with
  | some (j, _) => match ops[j]? with
    | some g => g.dst.toList
    | none => []
  | none => [])
structure PO where
 i : Nat
 o : Oper
 m : Nat
 fl : Bool
def ag2 : List Oper → List Nat → Nat → List PO
 | o :: r, m :: ms, i => ⟨i, o, m, J5 o⟩ :: ag2 r ms (i + 1)
 | _, _, _ => []
def cA3 (done : Nat) : List PO → List PO × List PO × Nat
 | [] => ([], [], done)
 | x :: r => bif x.fl && Nat.beq (x.m &&& done) x.m then
  let (a, b, d) := cA3 (done ||| 2 ^ x.i) r
  (x :: a, b, d)
   else
    let (a, b, d) := cA3 done r
    (a, x :: b, d)
def cm1 : Nat → Nat → List PO → List PO
 | 0, _, l => l
 | f + 1, done, l =>
   match cA3 done l with
   | (a, b, d) => match b.find? (fun x => !x.fl) with
     | none => a ++ b
     | some c => a ++ c :: cm1 f (d ||| 2 ^ c.i) (b.filter fun x => !(Nat.beq x.i c.i))
def bl1 (o : Oper) (t : Nat) : Bool := match o.dst with
 | some d => Nat.beq d t
 | none => false
def c69 (ops : List Oper) (l : List PO) : Bool :=
 l.all fun x => ((E4 ops x.o).all fun t => l.all fun y => !(bl1 y.o t) || x.m.testBit y.i || (!y.fl && y.m.testBit x.i)) &&
  (match x.o.dst with
  | none => true
  | some d => l.all fun y => !(bl1 y.o d) || Nat.beq x.i y.i)
def c70 (l : List PO) : Bool :=
 l.all fun x => x.fl || l.all fun y => y.fl || !(Nat.blt y.i x.i) || x.m.testBit y.i
def eager : Nat → List PO → Bool
 | _, [] => true
 | done, x :: r => Nat.beq (x.m &&& done) x.m && !(done.testBit x.i) && (x.fl || r.all (fun y => !y.fl || !(Nat.beq (y.m &&& done) y.m))) && eager (done ||| 2 ^ x.i) r
def c71 (ops : List Oper) (l : List PO) : List PO := (cm1 (ops.length + 1) 0 l).filterMap fun y => l[y.i]?
def cm2 (ops : List Oper) : Option (List PO) :=
 match bv1 ops [] with
 | none => none
 | some ms => bif c69 ops (ag2 ops ms 0) && c70 (ag2 ops ms 0) && eager 0 (c71 ops (ag2 ops ms 0)) &&
  (ag2 ops ms 0).all (fun x => (c71 ops (ag2 ops ms 0)).any fun y => Nat.beq x.i y.i) then some (c71 ops (ag2 ops ms 0)) else none
mutual
def AV.beq : AV → AV → Bool
 | .bool a, .bool b => a == b
 | .int k a, .int k' b => decide (k = k') && aO8 a b
 | .str a, .str b => c59 a b
 | .nilp, .nilp | .nils, .nils | .es0, .es0 | .nilm, .nilm | .nilf, .nilf | .nili, .nili => true
 | .ptr a b, .ptr c d => Nat.beq a c && Nat.beq b d
 | .glob a, .glob b | .map a, .map b | .opq a, .opq b => Nat.beq a b
 | .ostr a, .ostr b | .obool a, .obool b => SX.beq a b
 | .osl a b c d, .osl a' b' c' d' => Nat.beq a a' && SX.beq b b' && SX.beq c c' && Nat.beq d d'
 | .optr a b c d, .optr a' b' c' d' => Nat.beq a a' && SX.beq b b' && Nat.beq c c' && Nat.beq d d'
 | .ous a b c, .ous a' b' c' => Nat.beq a a' && SX.beq b b' && Nat.beq c c'
 | .any, .any => true
 | .atl a, .atl b => Nat.beq a b
 | .oint k a, .oint k' b => decide (k = k') && SX.beq a b
 | .es a b c, .es a' b' c' => Nat.beq a a' && Nat.beq b b' && Nat.beq c c'
 | .sl a b c d, .sl a' b' c' d' => Nat.beq a a' && Nat.beq b b' && Nat.beq c c' && Nat.beq d d'
 | .us a b c d, .us a' b' c' d' => Nat.beq a a' && Nat.beq b b' && Nat.beq c c' && Nat.beq d d'
 | .func f a b, .func g c d => decide (f = g) && AV.beqs a c && AV.beqs b d
 | .iface t v, .iface u w => Nat.beq t u && AV.beq v w
 | .agg a, .agg b | .tup a, .tup b => AV.beqs a b
 | _, _ => false
def AV.beqs : List AV → List AV → Bool
 | [], [] => true
 | a :: x, b :: y => AV.beq a b && AV.beqs x y
 | _, _ => false
end
mutual
def u9 (v0 : Nat) : SX → Bool
 | .va m => Nat.blt m v0
 | .op _ l => M8 v0 l
 | .app _ l => M8 v0 l
 | _ => true
def M8 (v0 : Nat) : List SX → Bool
 | [] => true
 | a :: r => u9 v0 a && M8 v0 r
end
mutual
def okA (v0 nb : Nat) : AV → Bool
 | .bool _ | .int _ _ | .str _ | .nilp | .glob _ | .nils | .es0 | .nilm | .nilf | .nili | .opq _ | .atl _ | .any => true
 | .ptr b _ => Nat.blt b nb
 | .sl b _ _ _ => Nat.blt b nb
 | .us b _ _ _ => Nat.blt b nb
 | .es b _ _ => Nat.blt b nb
 | .map b => Nat.blt b nb
 | .yield b => Nat.blt b nb
 | .func _ x y => br5 v0 nb x && br5 v0 nb y
 | .iface _ v => okA v0 nb v
 | .agg l => br5 v0 nb l
 | .tup l => br5 v0 nb l
 | .oint _ e => u9 v0 e
 | .ostr e => u9 v0 e
 | .obool e => u9 v0 e
 | .osl b x y _ => Nat.blt b nb && u9 v0 x && u9 v0 y
 | .optr b x _ _ => Nat.blt b nb && u9 v0 x
 | .ous b x _ => Nat.blt b nb && u9 v0 x
def br5 (v0 nb : Nat) : List AV → Bool
 | [] => true
 | a :: r => okA v0 nb a && br5 v0 nb r
end
def b04 (v0 : Nat) (e : SX) : Option Nat := match e with
 | .va m => bif Nat.ble v0 m then some (m - v0) else none
 | _ => none
def ba6 (v0 n : Nat) (p x : SX) : Option (List SX) := match b04 v0 p with
 | some m => bif Nat.beq m n then some [x] else none
 | none => bif SX.beq p x && u9 v0 x then some [] else none
def c19 (v0 n : Nat) (p : SX) (x : Option SX) : Option (List SX) := match x with
 | some x => ba6 v0 n p x
 | none => none
def cw3 (v0 n : Nat) (k : IntKind) (p : SX) (x : Option (IntKind × SX)) : Option (List SX) := match x with
 | some (k', x) => if k = k' then ba6 v0 n p x else none
 | none => none
def b05 (v0 n : Nat) (p q x y : SX) : Option (List SX) := match ba6 v0 n p x with
 | some es => match ba6 v0 (n + es.length) q y with
   | some fs => some (es ++ fs)
   | none => none
 | none => none
def aP7 (v0 nb n b : Nat) (p q : SX) (s : Nat) (x : AV) : Option (List SX) := match x with
 | .osl b' x y s' => bif Nat.beq b b' && Nat.beq s s' && Nat.blt b nb then b05 v0 n p q x y else none
 | _ => none
def aP8 (v0 nb n b : Nat) (p : SX) (s : Nat) (x : AV) : Option (List SX) := match x with
 | .ous b' x s' => bif Nat.beq b b' && Nat.beq s s' && Nat.blt b nb then ba6 v0 n p x else none
 | _ => none
mutual
def p7 (v0 nb n : Nat) : AV → AV → Option (List SX)
 | .any, _ => some []
 | .oint k p, x => cw3 v0 n k p (ay1 x)
 | .ostr p, x => c19 v0 n p (aZ0 x)
 | .obool p, x => c19 v0 n p (b00 x)
 | .agg ps, .agg xs => a15 v0 nb n ps xs
 | .osl b p q s, x => aP7 v0 nb n b p q s x
 | .ous b p s, x => aP8 v0 nb n b p s x
 | p, x => bif AV.beq p x && okA v0 nb x then some [] else none
def a15 (v0 nb n : Nat) : List AV → List AV → Option (List SX)
 | [], [] => some []
 | p :: ps, x :: xs => match p7 v0 nb n p x with
   | some e => match a15 v0 nb (n + e.length) ps xs with
     | some es => some (e ++ es)
     | none => none
   | none => none
 | _, _ => none
end
def al0 (v0 nb : Nat) : List Ent → List Ent → Bool
 | [], [] => true
 | a :: x, b :: y => AV.beq a.key b.key && AV.beq a.val b.val && Nat.beq a.born b.born && okA v0 nb b.key && okA v0 nb b.val && al0 v0 nb x y
 | _, _ => false
def bv2 (v0 nb n : Nat) (p x : Blk) : Option (List SX) := match p, x with
 | .cells e fz ps, .cells e' fz' xs => bif Nat.beq e e' && Nat.beq fz fz' && ps.all AV.oneA then a15 v0 nb n ps xs else none
 | .arr e sig p, .arr e' sig' x => bif Nat.beq e e' && B6 sig sig' then ba6 v0 n p x else none
 | .map es c, .map es' c' => bif al0 v0 nb es es' && Nat.beq c c' then some [] else none
 | .marr ks vs p, .marr ks' vs' x => bif B6 ks ks' && B6 vs vs' then ba6 v0 n p x else none
 | .marr _ _ p, .map [] _ => ba6 v0 n p (.op .row [])
 | _, _ => none
def aG0 (v0 nb n : Nat) (p x : Option Blk) : Option (List SX) := match p with
 | none => some []
 | some p => match x with
   | some x => bv2 v0 nb n p x
   | none => none
def bQ1 (v0 nb : Nat) (aP a : Fr) : Nat → Nat → Nat → Option (List SX)
 | 0, _, _ => some []
 | m + 1, t, n => match p7 v0 nb n (aP.slot t) (a.slot t) with
   | some e => match bQ1 v0 nb aP a m (t + 1) (n + e.length) with
     | some es => some (e ++ es)
     | none => none
   | none => none
def bQ2 (v0 nb : Nat) (hP h : Heap) : Nat → Nat → Nat → Option (List SX)
 | 0, _, _ => some []
 | m + 1, b, n => match aG0 v0 nb n (hP.get b) (h.get b) with
   | some e => match bQ2 v0 nb hP h m (b + 1) (n + e.length) with
     | some es => some (e ++ es)
     | none => none
   | none => none
def Q2 (a : Fr) : Bool := a.ds.isEmpty && a.ro.isNone
def V6 (v0 : Nat) (aP : Fr) (hP : Heap) (a : Fr) (h : Heap) : Option (List SX) :=
 bif Q2 aP && Q2 a && Nat.beq aP.nt a.nt && Nat.ble hP.next h.next && Nat.beq hP.wm h.wm then
  (match bQ1 v0 hP.next aP a aP.nt 0 0 with
  | some es => match bQ2 v0 hP.next hP h hP.next 0 es.length with
    | some fs => some (es ++ fs)
    | none => none
  | none => none)
 else none
def D3 (a : Fr) : List (Nat × AV) → Fr
 | [] => a
 | (t, v) :: r => D3 (a.put (some t) v) r
def layDead (a : Fr) : List Nat → Fr
 | [] => a
 | t :: r => layDead (a.put (some t) .any) r
def cm3 (n : Nat) (t : TH) (_ wm : Nat) : Heap := ⟨t, n, wm⟩
def Heap.upto (h : Heap) (n : Nat) : Heap := Heap.rec (cm3 n) h
def F4 (h : Heap) : List (Nat × Option Blk) → Heap
 | [] => h
 | (b, x) :: r => F4 (h.put b x) r
def ba7 (a : Fr) (b : Nat) : Nat → Bool
 | 0 => false
 | t + 1 => (match a.slot t with
   | .ptr b' _ => Nat.beq b b'
   | .map b' => Nat.beq b b'
   | _ => false) || ba7 a b t
def cm4 (h : Heap) (b : Nat) : Bool := match h.get b with
 | some (.arr _ _ _) => true
 | _ => false
def ba8 (a : Fr) (h : Heap) (n0 : Nat) (next : Nat) (l : List (Nat × Option Blk)) : Bool := l.all fun p => Nat.blt p.1 next && (Nat.ble n0 p.1 || ba7 a p.1 a.nt || cm4 h p.1)
def x8 (v0 : Nat) (q : Nat → SX) (e : SX) : SX := match b04 v0 e with
 | some m => q m
 | none => e
mutual
def al1 (v0 : Nat) (q : Nat → SX) : AV → AV
 | .oint k e => .oint k (x8 v0 q e)
 | .ostr e => .ostr (x8 v0 q e)
 | .obool e => .obool (x8 v0 q e)
 | .agg l => .agg (aA3 v0 q l)
 | .osl b x y s => .osl b (x8 v0 q x) (x8 v0 q y) s
 | .ous b x s => .ous b (x8 v0 q x) s
 | x => x
def aA3 (v0 : Nat) (q : Nat → SX) : List AV → List AV
 | [] => []
 | a :: r => al1 v0 q a :: aA3 v0 q r
end
def b06 (v0 : Nat) (q : Nat → SX) (x : Option Blk) : Option Blk := match x with
 | some (.cells e fz cs) => some (.cells e fz (aA3 v0 q cs))
 | some (.arr e sig l) => some (.arr e sig (x8 v0 q l))
 | some (.marr ks vs l) => some (.marr ks vs (x8 v0 q l))
 | x => x
def okB (v0 nb : Nat) : Option Blk → Bool
 | none => true
 | some (.cells _ _ cs) => br5 v0 nb cs
 | some (.arr _ _ l) => u9 v0 l
 | some (.marr _ _ l) => u9 v0 l
 | some (.map es _) => al0 v0 nb es es
 | _ => false
def cw4 (v0 nb : Nat) (a : Fr) : Nat → Bool
 | 0 => true
 | t + 1 => okA v0 nb (a.slot t) && cw4 v0 nb a t
def cw5 (v0 nb : Nat) (h : Heap) : Nat → Bool
 | 0 => true
 | t + 1 => okB v0 nb (h.get t) && cw5 v0 nb h t
mutual
def noB (b : Nat) : AV → Bool
 | .ptr c _ => !(Nat.beq c b)
 | .sl c _ _ _ => !(Nat.beq c b)
 | .us c _ _ _ => !(Nat.beq c b)
 | .es c _ _ => !(Nat.beq c b)
 | .map c => !(Nat.beq c b)
 | .yield c => !(Nat.beq c b)
 | .func _ x y => ba9 b x && ba9 b y
 | .iface _ v => noB b v
 | .agg l => ba9 b l
 | .tup l => ba9 b l
 | .osl c _ _ _ => !(Nat.beq c b)
 | .optr c _ _ _ => !(Nat.beq c b)
 | .ous c _ _ => !(Nat.beq c b)
 | _ => true
def ba9 (b : Nat) : List AV → Bool
 | [] => true
 | a :: r => noB b a && ba9 b r
end
def bQ3 (b : Nat) : Option Blk → Bool
 | none => true
 | some (.cells _ _ cs) => ba9 b cs
 | some (.arr _ _ _) => true
 | some (.map es _) => es.all fun e => noB b e.key && noB b e.val
 | some (.marr _ _ _) => true
 | _ => false
def bv3 (b t : Nat) (a : Fr) : Nat → Bool
 | 0 => a.ds.isEmpty
 | s + 1 => (Nat.beq s t || noB b (a.slot s)) && bv3 b t a s
def c20 (b : Nat) (h : Heap) : Nat → Bool
 | 0 => true
 | s + 1 => bQ3 b (h.get s) && c20 b h s
def a16 (o : OwnP) (a : Fr) (h : Heap) (l : SX) : Fr × Heap := (a.put (some o.slot) (.ous o.blk (.op .llen [l]) o.sig.length), h.put o.blk (some (.arr o.elem o.sig l)))
def bQ4 (len l : SX) : Bool := SX.beq len (.op .llen [l]) || (match len, l with
 | .ci 0, .op .row [] => true
 | _, _ => false)
def bv4 (o : OwnP) (a : Fr) (h : Heap) : Option (Fr × Heap) :=
 match a.slot o.slot with
 | .ous r len sz => bif Nat.beq r o.blk then (match h.get r with
     | some (.arr e sig l) => bif Nat.beq e o.elem && B6 sig o.sig && Nat.beq sz sig.length then some (a, h) else none
     | _ => none)
   else bif Nat.blt o.slot a.nt && Nat.blt o.blk h.next && Nat.blt o.blk 65536 && (h.get o.blk).isNone && bv3 o.blk o.slot a a.nt && c20 o.blk h h.next && Nat.ble h.wm r then (match h.get r with
    | some (.arr e sig l) => bif Nat.beq e o.elem && B6 sig o.sig && Nat.beq sz sig.length && bQ4 len l then some (a16 o a (h.put r none) l) else none
    | _ => none) else none
 | .nils => bif Nat.blt o.slot a.nt && Nat.blt o.blk h.next && Nat.blt o.blk 65536 && (h.get o.blk).isNone && bv3 o.blk o.slot a a.nt && c20 o.blk h h.next then some (a16 o a h (.op .row [])) else none
 | .us r 0 n sz => bif Nat.blt o.slot a.nt && Nat.blt o.blk h.next && Nat.blt o.blk 65536 && (h.get o.blk).isNone && bv3 o.blk o.slot a a.nt && c20 o.blk h h.next && Nat.ble h.wm r && Nat.blt 0 sz then (match h.get r with
     | some (.cells e 0 cs) => bif Nat.beq e o.elem && Nat.beq sz o.sig.length && Nat.beq cs.length (n * sz) then (match a14 o.sig sz n cs with
       | some rs => some (a16 o a (h.put r none) (.op .row rs))
       | none => none) else none
     | _ => none) else none
 | .sl r p n c => bif Nat.blt o.slot a.nt && Nat.blt o.blk h.next && Nat.blt o.blk 65536 && (h.get o.blk).isNone && bv3 o.blk o.slot a a.nt && c20 o.blk h h.next && Nat.ble h.wm r then (match h.get r with
     | some (.cells e fz cs) => bif Nat.beq e o.elem && Nat.ble fz p && Nat.ble (p + c * o.sig.length) cs.length && Nat.ble n c then (match a14 o.sig o.sig.length n ((cs.drop p).take (n * o.sig.length)) with
       | some rs => some (a16 o a (h.put r none) (.op .row rs))
       | none => none) else none
     | _ => none) else none
 | _ => none
def a04 (o : OwnP) (c i e fz : Nat) (cs : List AV) (h : Heap) (l : SX) : Heap := (h.put c (some (.cells e fz (cs.set i (.ous o.blk (.op .llen [l]) o.sig.length))))).put o.blk (some (.arr o.elem o.sig l))
def bQ5 (b c : Nat) (cs : List AV) (h : Heap) : Nat → Bool
 | 0 => ba9 b cs
 | s + 1 => (Nat.beq s c || bQ3 b (h.get s)) && bQ5 b c cs h s
def bv5 (o : OwnP) (c i e fz : Nat) (cs : List AV) (a : Fr) (h : Heap) (x : Option AV) : Option (Fr × Heap) := match x with
 | some (.ous r len sz) => bif Nat.beq r o.blk then (match h.get r with
     | some (.arr e sig l) => bif Nat.beq e o.elem && B6 sig o.sig && Nat.beq sz sig.length then some (a, h) else none
     | _ => none)
   else bif Nat.ble h.wm r && !(Nat.beq r c) then (match h.get r with
    | some (.arr e' sig l) => bif Nat.beq e' o.elem && B6 sig o.sig && Nat.beq sz sig.length && bQ4 len l then some (a, a04 o c i e fz cs (h.put r none) l) else none
    | _ => none) else none
 | some .nils => some (a, a04 o c i e fz cs h (.op .row []))
 | some (.us r 0 n sz) => bif Nat.ble h.wm r && Nat.blt 0 sz && !(Nat.beq r c) then (match h.get r with
     | some (.cells e' 0 ds) => bif Nat.beq e' o.elem && Nat.beq sz o.sig.length && Nat.beq ds.length (n * sz) then (match a14 o.sig sz n ds with
       | some rs => some (a, a04 o c i e fz cs (h.put r none) (.op .row rs))
       | none => none) else none
     | _ => none) else none
 | _ => none
def c72 (b : Nat) (x : Option AV) : Bool := match x with
 | some (.ous r _ _) => Nat.beq r b
 | _ => false
def c73 (c : Nat) (x : AV) : Bool := match x with
 | .ptr b _ => Nat.beq b c
 | _ => false
def c74 (o : OwnP) (c i : Nat) (a : Fr) (h : Heap) : Option (Fr × Heap) := match h.get c with
 | some (.cells e fz cs) => bif c73 c (a.slot o.slot) && Nat.blt o.slot a.nt && Nat.blt i cs.length && (c72 o.blk cs[i]? || (Nat.blt o.blk h.next && Nat.blt o.blk 65536 && (h.get o.blk).isNone && !(Nat.beq c o.blk) && bv3 o.blk a.nt a a.nt && bQ5 o.blk c (cs.set i .nils) h h.next)) then bv5 o c i e fz cs a h cs[i]? else none
 | _ => none
def c75 (o : OwnP) (a : Fr) (h : Heap) : Option (Fr × Heap) := match o.cell with
 | none => bv4 o a h
 | some p => c74 o p.1 p.2 a h
def b07 : List OwnP → Fr → Heap → Option (Fr × Heap)
 | [], a, h => some (a, h)
 | o :: r, a, h => match c75 o a h with
   | some p => b07 r p.1 p.2
   | none => none
def bl2 : Ex → Ex → Bool
 | .norm, .norm => true
 | .ret, .ret => true
 | .exit a, .exit b => Nat.beq a b
 | _, _ => false
structure Pend where
 i : Nat
 o : Oper
 v : AV
 nd : Option SX
inductive Task (R : Type) where
 | code (c : Code) (a : Fr) (h : Heap) (k : Ex → Fr → Heap → R)
 | loop (c : Code) (a : Fr) (h : Heap) (k : Ex → Fr → Heap → R)
 | ops (all rest : List Oper) (a : Fr) (h : Heap) (k : Fr → Heap → R)
 | dops (all : List Oper) (rest : List PO) (pend : List Pend) (a : Fr) (h : Heap) (k : Fr → Heap → R)
 | call (f : FuncId) (args : List AV) (h : Heap) (k : AV → Heap → R)
 | body (f : FuncId) (args : List AV) (h : Heap) (k : AV → Heap → R)
 | dbody (f : FuncId) (args : List AV) (h : Heap) (k : AV → Heap → R)
 | leave (rs : List ResultVar) (a : Fr) (ds : List ADef) (h : Heap) (k : AV → Heap → R)
abbrev PC := List (SX × Bool)
structure Alg (R : Type) where
 bad : R
 amb : List (AV × Heap) → (AV × Heap → R) → R
 ite : SX → R → R → R
 need : SX → R → R
 loop : LHd → VT → List R → R
def J6 : Alg Bool := ⟨false, fun l f => l.all f, fun _ x y => x && y, fun _ _ => false, fun _ _ _ => false⟩
def bv6 : Alg (Option (AV × Heap)) := ⟨none, fun l f => match l with
  | x :: _ => f x
  | [] => none, fun _ _ _ => none, fun _ _ => none, fun _ _ _ => none⟩
structure VC where
 pc : PC
 cl : SX
def c21 (p : Prim) (l : List SX) : SX × Bool := match p, l with
 | .cmp .geq, [a, b] => (.op (.cmp .lss) [a, b], false)
 | .cmp .gtr, [a, b] => (.op (.cmp .lss) [b, a], true)
 | .cmp .leq, [a, b] => (.op (.cmp .lss) [b, a], false)
 | .cmp .neq, [a, b] => (.op (.cmp .eql) [a, b], false)
 | .scmp .geq, [a, b] => (.op (.scmp .lss) [a, b], false)
 | .scmp .gtr, [a, b] => (.op (.scmp .lss) [b, a], true)
 | .scmp .leq, [a, b] => (.op (.scmp .lss) [b, a], false)
 | .scmp .neq, [a, b] => (.op (.scmp .eql) [a, b], false)
 | p, l => (.op p l, true)
def aG1 (e : SX) : SX × Bool := match e with
 | .op p l => c21 p l
 | e => (e, true)
def bQ6 (e : SX) : PC → Option Bool
 | [] => none
 | p :: r => bif SX.beq e p.1 then some p.2 else bQ6 e r
def bv7 (a b : Bool) : Bool := bif a then b else !b
def c76 (c : SX × Bool) (pc : PC) : Option Bool := match bQ6 c.1 pc with
 | some b => some (bv7 b c.2)
 | none => none
def cA4 (a b : Option Bool) : Option Bool := match a with
 | some false => some false
 | some true => b
 | none => match b with
   | some false => some false
   | _ => none
def orO (a b : Option Bool) : Option Bool := match a with
 | some true => some true
 | some false => b
 | none => match b with
   | some true => some true
   | _ => none
def cF0 (a : Option Bool) : Option Bool := match a with
 | some b => some (!b)
 | none => none
def cF1 (c a b : Option Bool) : Option Bool := match c with
 | some true => a
 | some false => b
 | none => none
def c22 (k : SX → Option Bool) (p : Prim) (l : List SX) : Option Bool := match p, l with
 | .not, [a] => cF0 (k a)
 | .and, [a, b] => cA4 (k a) (k b)
 | .or, [a, b] => orO (k a) (k b)
 | .ite, [c, a, b] => cF1 (k c) (k a) (k b)
 | p, l => cv5 (.op p l)
def c23 (k : SX → Option Bool) (e : SX) : Option Bool := match e with
 | .cb b => some b
 | .op p l => c22 k p l
 | _ => none
def bv8 (pc : PC) (k : SX → Option Bool) (e : SX) : Option Bool := match c76 (aG1 e) pc with
 | some b => some b
 | none => c23 k e
def ag3 (pc : PC) (n : Nat) : SX → Option Bool := Nat.rec (motive := fun _ => SX → Option Bool) (fun _ => none) (fun _ k => bv8 pc k) n
def c24 (k : SX → Bool → PC) (p : Prim) (l : List SX) (b : Bool) : PC := match p, l with
 | .not, [a] => k a (!b)
 | .and, [x, y] => bif b then k x true ++ k y true else []
 | .or, [x, y] => bif b then [] else k x false ++ k y false
 | .ite, [c, x, .cb false] => bif b then k c true ++ k x true else []
 | .ite, [c, .cb true, y] => bif b then [] else k c false ++ k y false
 | _, _ => []
def bv9 (k : SX → Bool → PC) (e : SX) (b : Bool) : PC := match e with
 | .op p l => c24 k p l b
 | _ => []
def cm5 (c : SX × Bool) (b : Bool) : SX × Bool := (c.1, bv7 c.2 b)
def bw0 (k : SX → Bool → PC) (e : SX) (b : Bool) : PC := cm5 (aG1 e) b :: bv9 k e b
def aP9 (n : Nat) : SX → Bool → PC := Nat.rec (motive := fun _ => SX → Bool → PC) (fun _ _ => []) (fun _ k => bw0 k) n
abbrev RPT := PC → VT
def cF2 (pc : PC) (k : SX → SX) (p : Prim) (l : List SX) : SX := match p, l with
 | .ite, [c, a, b] => (match ag3 pc 8 c with
   | some true => k a
   | some false => k b
   | none => .op .ite [c, a, b])
 | .and, [a, b] => (match ag3 pc 8 a with
   | some true => k b
   | _ => (match ag3 pc 8 b with
     | some true => k a
     | _ => .op .and [a, b]))
 | .or, [a, b] => (match ag3 pc 8 a with
   | some false => k b
   | _ => (match ag3 pc 8 b with
     | some false => k a
     | _ => .op .or [a, b]))
 | .not, [a] => .op .not [k a]
 | p, l => .op p l
def cA5 (pc : PC) (k : SX → SX) (e : SX) : SX := match e with
 | .op p l => cF2 pc k p l
 | e => e
def red (pc : PC) (n : Nat) : SX → SX := Nat.rec (motive := fun _ => SX → SX) (fun e => e) (fun _ k => cA5 pc k) n
def cm6 (pc : PC) (k : SX → SX) (p : Prim) (l : List SX) : SX := match p, l with
 | .ite, [c, a, b] => (match ag3 pc 8 c with
   | some true => k a
   | some false => k b
   | none => .op .ite [c, a, b])
 | p, l => .op p l
def c77 (pc : PC) (k : SX → SX) (e : SX) : SX := match e with
 | .op p l => cm6 pc k p l
 | e => e
def cw6 (pc : PC) (n : Nat) : SX → SX := Nat.rec (motive := fun _ => SX → SX) (fun e => e) (fun _ k => c77 pc k) n
def c78 (e : SX) (x y : RPT) (pc : PC) (b : Option Bool) : VT := match b with
 | some true => x pc
 | some false => y pc
 | none => .ite (red pc 16 e) (x (aP9 8 e true ++ pc)) (y (aP9 8 e false ++ pc))
def bw1 (e : SX) (x : RPT) (pc : PC) (b : Option Bool) : VT := match b with
 | some true => x pc
 | _ => .need (red pc 16 e) (x (aP9 8 e true ++ pc))
def c79 (l : List (AV × Heap)) (f : AV × Heap → RPT) (pc : PC) : VT := match l with
 | [x] => f x pc
 | [x, y] => .both (f x pc) (f y pc)
 | _ => .bad
def b08 (pc : PC) : List RPT → List VT
 | [] => []
 | k :: r => k pc :: b08 pc r
def aG2 : Alg RPT := ⟨fun _ => .bad, fun l f pc => c79 l f pc, fun e x y pc => c78 e x y pc (ag3 pc 8 e), fun e x pc => bw1 e x pc (ag3 pc 8 e), fun hd body ks pc => .loop hd body (b08 pc ks)⟩
def n9 (all : List Oper) (a : Fr) (o : Oper) : Option Bool :=
 match o.guard with
 | none => some true
 | some (j, want) => match (all[j]?).bind (·.dst) with
   | none => some false
   | some d => bif Nat.blt d a.nt then match a.slot d with
     | .bool b => some (b == want)
     | .obool e => match ak5 e a.pc with
       | some b => some (b == want)
       | none => none
     | .opq _ => none
     | .any => none
     | _ => some false
     else some false
def aQ0 (all : List Oper) (a : Fr) (o : Oper) : Option SX :=
 match o.guard with
 | none => none
 | some (j, _) => match (all[j]?).bind (·.dst) with
   | none => none
   | some d => match a.slot d with
     | .obool e => some e
     | _ => none
def cA6 (P : Program) (a : Fr) (h : Heap) : ResultVar → Option AV
 | .tmp t => some (a.slot t)
 | .cell x t => br9 P t (a.slot x) h
def ag4 (P : Program) (a : Fr) (h : Heap) : List ResultVar → Option (List AV)
 | [] => some []
 | r :: l => match cA6 P a h r, ag4 P a h l with
   | some v, some vs => some (v :: vs)
   | _, _ => none
def c80 : List AV → AV
 | [v] => v
 | vs => .tup vs
def M9 : List AV → Nat → TF → TF
 | [], _, t => t
 | v :: r, i, t => M9 r (i + 1) (t.set i v)
def cF3 (nd : Option SX) (e : SX) : Bool := match nd with
 | some x => SX.beq x e
 | none => false
def bb0 (r : Res) (nd : Option SX) (v : AV) : Bool := match r with
 | .val v' _ => AV.beq v' v
 | .need e v' _ => cF3 nd e && AV.beq v' v
 | _ => false
def Q3 (E : Env) (a : Fr) (h : Heap) : List Pend → Bool
 | [] => true
 | p :: r => (t7 p.o || bb0 (u4 E a.ev p.o h) p.nd p.v) && Q3 E a h r
def E5 : AV → Bool
 | .bool _ | .int _ _ | .str _ | .nilp | .nils | .nilm | .nilf | .nili => true
 | _ => false
inductive Out where
 | plain (v : AV)
 | row (elem : Nat) (len sz : Nat) (cs : List AV)
 deriving Inhabited
def bw2 (wm : Nat) (h : Heap) (v : AV) : Option Out :=
 match v with
 | .us b 0 len sz => bif Nat.ble wm b then match h.get b with
   | some (.cells e 0 cs) => bif Nat.beq cs.length (len * sz) && cs.all E5 then some (.row e len sz cs) else none
   | _ => none
   else none
 | v => bif E5 v then some (.plain v) else none
def V7 (wm : Nat) (h : Heap) : List AV → Option (List Out)
 | [] => some []
 | v :: r => match bw2 wm h v, V7 wm h r with
   | some o, some os => some (o :: os)
   | _, _ => none
def al2 : List Out → Nat
 | [] => 0
 | .plain _ :: r => al2 r
 | .row _ _ _ _ :: r => al2 r + 1
def bb1 (b : Bool) (l : List Out) : Option (Bool × List Out) := bif Nat.ble (al2 l) 1 then some (b, l) else none
def b09 (wm : Nat) (h : Heap) (v : AV) : Option (Bool × List Out) :=
 match v with
 | .tup vs => (V7 wm h vs).bind (bb1 true)
 | v => (V7 wm h [v]).bind (bb1 false)
def Out.beq : Out → Out → Bool
 | .plain a, .plain b => AV.beq a b
 | .row e l s c, .row e' l' s' c' => Nat.beq e e' && Nat.beq l l' && Nat.beq s s' && AV.beqs c c'
 | _, _ => false
def aG3 : List Out → List Out → Bool
 | [], [] => true
 | a :: x, b :: y => Out.beq a b && aG3 x y
 | _, _ => false
def cm7 (x y : Option (Bool × List Out)) : Bool :=
 match x, y with
 | some (a, l), some (b, m) => (a == b) && aG3 l m
 | _, _ => false
def D4 : List Out → Heap → List AV × Heap
 | [], h => ([], h)
 | .plain v :: r, h => let (vs, h') := D4 r h; (v :: vs, h')
 | .row e len sz cs :: r, h => let (vs, h') := D4 r (h.new (.cells e 0 cs)); (.us h.next 0 len sz :: vs, h')
def aQ1 (b : Bool) (l : List Out) (h : Heap) : AV × Heap :=
 match D4 l h with
 | (vs, h') => (bif b then .tup vs else vs.headD .undef, h')
def cm8 (t : TH) (next _ : Nat) : Heap := ⟨t, next, next⟩
def Heap.raise (h : Heap) : Heap := Heap.rec cm8 h
abbrev Rec := (R : Type) → Alg R → Task R → R
section
variable {R : Type}
def cH9 (rec : Rec) (A : Alg R) (y : Code) (k : Ex → Fr → Heap → R) (e : Ex) (a : Fr) (h : Heap) : R := match e with
 | .norm => rec R A (.code y a h k)
 | e => k e a h
def c25 (id : Nat) (k : Ex → Fr → Heap → R) (e : Ex) (a : Fr) (h : Heap) : R := match e with
 | .exit i => bif Nat.beq i id then k .norm a h else k (.exit i) a h
 | e => k e a h
def cA7 (rec : Rec) (A : Alg R) (c : Code) (k : Ex → Fr → Heap → R) (e : Ex) (a : Fr) (h : Heap) : R := match e with
 | .norm => rec R A (.loop c a h k)
 | e => k e a h
def bQ7 (ro : Option Nat) (k : Ex → Fr → Heap → R) (a : Fr) (h : Heap) : R := k .norm (a.back ro) h
def bw3 (rec : Rec) (A : Alg R) (x y : Code) (a : Fr) (h : Heap) (k : Ex → Fr → Heap → R) (e : SX) (p : Option Bool) : R := match p with
 | some b => rec R A (.code (bif b then x else y) a h k)
 | none => A.ite e (rec R A (.code x (a.cond (e, true)) h k)) (rec R A (.code y (a.cond (e, false)) h k))
def c81 (rec : Rec) (A : Alg R) (x y : Code) (a : Fr) (h : Heap) (k : Ex → Fr → Heap → R) (v : Option AV) : R := match v with
 | some (.bool b) => rec R A (.code (bif b then x else y) a h k)
 | some (.obool e) => bw3 rec A x y a h k e (ak5 e a.pc)
 | _ => A.bad
def S4 : Code → Nat
 | .region id _ _ => id
 | .seq x _ => S4 x
 | .block _ b => S4 b
 | .loop b => S4 b
 | .scope b => S4 b
 | _ => 0
structure LSt where
 a : Fr
 h : Heap
def V0 (id : Nat) (args : List SX) (j : Nat) : SX := .op .lget [.app id args, .ci 1, .ci j]
def F6 (sp : LSpec) (a : Fr) (h : Heap) : LSt := ⟨(D3 (layDead a sp.dead) sp.head.slots).clear, F4 h sp.head.blks⟩
def t6 (sp : LSpec) (a : Fr) (h : Heap) : LSt := ⟨layDead (layDead a sp.dead) (sp.head.slots.map (·.1)), F4 h (sp.head.blks.map fun p => (p.1, none))⟩
def D6 (sp : LSpec) (a : Fr) (h : Heap) (x : StP) : LSt := ⟨(D3 (t6 sp a h).a x.slots).clear, (F4 (t6 sp a h).h x.blks).upto x.next⟩
def aG4 (sp : LSpec) (q : Nat → SX) (a : Fr) (h : Heap) (x : StP) : LSt :=
 ⟨D3 (t6 sp a h).a (x.slots.map fun p => (p.1, al1 sp.v0 q p.2)), (F4 (t6 sp a h).h (x.blks.map fun p => (p.1, b06 sp.v0 q p.2))).upto x.next⟩
def a49 (sp : LSpec) (a : Fr) (h : Heap) (e : Ex) (a' : Fr) (h' : Heap) : List (Ex × StP) → Nat → VT
 | [], _ => .bad
 | x :: r, i => bif bl2 x.1 e then (match V6 sp.v0 (D6 sp a h x.2).a (D6 sp a h x.2).h a' h' with
   | some es => .ret (i + 1) es
   | none => a49 sp a h e a' h' r (i + 1)) else a49 sp a h e a' h' r (i + 1)
def ay3 (sp : LSpec) (a : Fr) (h : Heap) : Fr × Heap := match b07 sp.owns (layDead a sp.dead) h with
 | some p => p
 | none => (layDead a sp.dead, h)
def c82 (p : Prim) (l : List SX) : Bool := match p, l with
 | .cmp .leq, [.ci 0, .op .llen [_]] => true
 | .cmp .leq, [.ci 0, .op .slen [_]] => true
 | .cmp .leq, [.ci a, .ci b] => !(az5 b a)
 | .cmp .lss, [.ci a, .ci b] => az5 a b
 | _, _ => false
def aQ2 (e : SX) : Bool := match e with
 | .cb b => b
 | .op p l => c82 p l
 | _ => false
def aQ3 (e : SX) : Bool := match e with
 | .op .and [a, b] => aQ2 a && aQ2 b
 | e => aQ2 e
def bl3 (e : SX) : Bool := match e with
 | .op .and [a, b] => aQ3 a && aQ3 b
 | e => aQ3 e
def needA (A : Alg R) (e : SX) (x : R) : R := bif bl3 e then x else A.need e x
def U0 (o : OwnP) (a : Fr) (h : Heap) : SX × Fr := match o.cell, a.slot o.slot with
 | none, .ous r len s => (match h.get r with
   | some (.arr _ _ l) => bif Nat.beq r o.blk || SX.beq len (.op .llen [l]) then (.cb true, a) else (.op (.cmp .eql) [len, .op .llen [l]], a.put (some o.slot) (.ous r (.op .llen [l]) s))
   | _ => (.cb true, a))
 | _, _ => (.cb true, a)
def v6 : List OwnP → Fr → Heap → SX × Fr
 | [], a, _ => (.cb true, a)
 | o :: r, a, h => match U0 o a h with
   | (e, a') => match v6 r a' h with
     | (e', b) => (ax7 e e', b)
def bQ8 (e : SX) (x : VT) : VT := bif bl3 e then x else .need e x
def al3 (sp : LSpec) (a : Fr) (h : Heap) (p : Fr × Heap) : VT := match V6 sp.v0 (F6 sp a h).a (F6 sp a h).h p.1 p.2 with
 | some es => .ret 0 es
 | none => .bad
def b10 (sp : LSpec) (a : Fr) (h : Heap) (e : Ex) (p : Fr × Heap) : VT := a49 sp a h e p.1 p.2 sp.exits 0
def bw4 (sp : LSpec) (a : Fr) (h : Heap) (e : Ex) (a' : Fr) (h' : Heap) : VT := match e with
 | .norm => bQ8 (v6 sp.owns a' h').1 (al3 sp a h (ay3 sp (v6 sp.owns a' h').2 h'))
 | e => bQ8 (v6 sp.owns a' h').1 (b10 sp a h e (ay3 sp (v6 sp.owns a' h').2 h'))
def bw5 (sp : LSpec) (a : Fr) (h : Heap) (e : Ex) (a' : Fr) (h' : Heap) (_ : PC) : VT := bw4 sp a h e a' h'
def cm9 (sp : LSpec) (a : Fr) (h : Heap) (n0 : Nat) : Bool := sp.owns.all (fun o => Nat.ble n0 o.blk) && ba8 a h n0 h.next sp.head.blks && sp.exits.all (fun x => Nat.ble h.next x.2.next && ba8 a h n0 x.2.next x.2.blks) && M8 sp.v0 sp.fv && Q2 a && cw4 sp.v0 h.next (t6 sp a h).a a.nt && cw5 sp.v0 h.next (t6 sp a h).h h.next
def al4 (rec : Rec) (A : Alg R) (c : Code) (n0 : Nat) (k : Ex → Fr → Heap → R) (sp : LSpec) (a : Fr) (h : Heap) : R :=
 bif cm9 sp a h n0 then
  (match V6 sp.v0 (F6 sp a h).a (F6 sp a h).h a h with
  | some s0 => A.loop ⟨sp.id, s0, sp.v0, sp.fv⟩ (rec RPT aG2 (.code c (F6 sp a h).a (F6 sp a h).h (bw5 sp a h)) [])
   (sp.exits.map fun x => k x.1 (aG4 sp (V0 sp.id (s0 ++ sp.fv)) a h x.2).a (aG4 sp (V0 sp.id (s0 ++ sp.fv)) a h x.2).h)
  | none => A.bad)
 else A.bad
def bw6 (rec : Rec) (A : Alg R) (c : Code) (n0 : Nat) (k : Ex → Fr → Heap → R) (sp : LSpec) (p : Fr × Heap) : R := al4 rec A c n0 k sp p.1 p.2
def b11 (rec : Rec) (A : Alg R) (c : Code) (a : Fr) (h : Heap) (k : Ex → Fr → Heap → R) (sp : LSpec) : R :=
 bif Q2 a then needA A (v6 sp.owns a h).1 (bw6 rec A c h.next k sp (ay3 sp (v6 sp.owns a h).2 (h.upto (Nat.add h.next sp.owns.length)))) else A.bad
def cn0 (rec : Rec) (A : Alg R) (c : Code) (a : Fr) (h : Heap) (k : Ex → Fr → Heap → R) (sp : Option LSpec) : R := match sp with
 | some sp => b11 rec A c a h k sp
 | none => rec R A (.code c a h (cA7 rec A c k))
def cn1 (rec : Rec) (A : Alg R) (ops : List Oper) (a : Fr) (h : Heap) (k : Ex → Fr → Heap → R) (p : Option (List PO)) : R := match p with
 | some l => rec R A (.dops ops l [] a h (bQ7 a.ro k))
 | none => A.bad
def bw7 (rec : Rec) (A : Alg R) (ops : List Oper) (draw : Bool) (a : Fr) (h : Heap) (k : Ex → Fr → Heap → R) : R :=
 bif draw then cn1 rec A ops a h k (cm2 ops) else rec R A (.ops ops ops a h (bQ7 a.ro k))
def bQ9 (rec : Rec) (A : Alg R) (a : Fr) (k : Ex → Fr → Heap → R) (h : Heap) (pend : Option Code) : R := match pend with
 | none => k .norm a h
 | some c => rec R A (.code c a h k)
def cn2 (rec : Rec) (A : Alg R) (a : Fr) (k : Ex → Fr → Heap → R) (h : Heap) (pend : Option Code) (st : LoopState) : R := match st with
 | .busy => A.bad
 | .ready => bQ9 rec A a k h pend
 | .done => bQ9 rec A a k h pend
 | .exhausted => bQ9 rec A a k h pend
def c26 (rec : Rec) (A : Alg R) (l : Nat) (a : Fr) (k : Ex → Fr → Heap → R) (_ : AV) (h : Heap) : R := match h.get l with
 | some (.loop st pend fn tm nt ps assign body d) => bif Nat.ble h.wm l then cn2 rec A a k (h.put l (some (.loop .exhausted pend fn tm nt ps assign body d))) pend st else A.bad
 | _ => A.bad
def bw8 (rec : Rec) (A : Alg R) (l : Nat) (a : Fr) (h : Heap) (k : Ex → Fr → Heap → R) (r : Res) : R := match r with
 | .enter g args => rec R A (.call g args h (c26 rec A l a k))
 | _ => A.bad
def aQ4 (h : Heap) (ro : Option Nat) : Option (Nat × Heap × List ADef) := match ro with
 | none => some (h.next, h.new (.defd false), [ADef.coll h.next])
 | some l => match h.get l with
   | some (.loop _ _ _ _ _ _ _ _ d) => some (d, h, [])
   | _ => none
def bw9 (E : Env) (rec : Rec) (A : Alg R) (ps : Array Tmp) (assign body : Code) (a : Fr) (k : Ex → Fr → Heap → R) (x : Option (Nat × Heap × List ADef)) (f : Option AV) : R := match x with
 | some (d, h, mark) => match f with
   | some fv => bw8 rec A h.next (a.mark mark) (h.new (.loop .ready none a.fn a.tm a.nt ps assign body d)) k
    (aF1 E fv [.yield h.next] (h.new (.loop .ready none a.fn a.tm a.nt ps assign body d)))
   | none => A.bad
 | none => A.bad
def c27 (E : Env) (rec : Rec) (A : Alg R) (c : Code) (a : Fr) (h : Heap) (k : Ex → Fr → Heap → R) : R := match c with
 | .skip => k .norm a h
 | .label _ => k .norm a h
 | .ret => k .ret a h
 | .exit id => k (.exit id) a h
 | .seq x y => rec R A (.code x a h (cH9 rec A y k))
 | .cond c x y => c81 rec A x y a h k (a.ev c)
 | .block id b => rec R A (.code b a h (c25 id k))
 | .loop b => rec R A (.loop b a h k)
 | .scope b => rec R A (.code b a h k)
 | .region _ ops draw => bw7 rec A ops.toList draw a h k
 | .rangeFunc f ps assign body => bw9 E rec A ps assign body a k (aQ4 h a.ro) (a.ev f)
 | _ => A.bad
def a51 : Ex → Option Code
 | .norm => none
 | .ret => some .ret
 | .exit id => some (.exit id)
def b12 : Option Code → LoopState
 | none => .ready
 | some _ => .done
def bx0 (A : Alg R) (l : Nat) (k : AV → Heap → R) (e : Ex) (a : Fr) (h : Heap) : R := match a.ds with
 | [] => match h.get l with
   | some (.loop _ _ fn tm nt ps as body d) => k (.bool (a51 e).isNone) (h.put l (some (.loop (b12 (a51 e)) (a51 e) fn tm nt ps as body d)))
   | _ => A.bad
 | _ => A.bad
def b13 (rec : Rec) (A : Alg R) (l : Nat) (body : Code) (k : AV → Heap → R) (e : Ex) (a : Fr) (h : Heap) : R := match e with
 | .norm => match h.get l with
   | some (.loop .ready pend fn tm nt ps as b d) => rec R A (.code body a (h.put l (some (.loop .busy pend fn tm nt ps as b d))) (bx0 A l k))
   | _ => A.bad
 | _ => A.bad
def aQ5 : List Tmp → List AV → Nat → TF → TF
 | p :: ps, v :: vs, nt, t => aQ5 ps vs nt (bif Nat.blt p nt then t.set p v else t)
 | _, _, _, t => t
def bx1 (rec : Rec) (A : Alg R) (l : Nat) (args : List AV) (h : Heap) (k : AV → Heap → R) (b : Option Blk) : R := match b with
 | some (.loop _ _ fn tm nt ps assign body _) => bif Nat.beq args.length ps.size && Nat.ble h.wm l then
  rec R A (.code assign ⟨aQ5 ps.toList args nt tm, nt, [], fn, [], some l⟩ h (b13 rec A l body k)) else A.bad
 | _ => A.bad
def cw7 (rec : Rec) (A : Alg R) (h : Heap) (k : AV → Heap → R) (r : Res) : R := match r with
 | .val v h => k v h
 | .need e v h => needA A e (k v h)
 | .cho e v l h => A.ite e (k v h) (A.amb (l.map fun v => (v, h)) fun x => k x.1 x.2)
 | .enter f args => rec R A (.call f args h k)
 | .choice l => A.amb l fun x => k x.1 x.2
 | .yield l args => bx1 rec A l args h k (h.get l)
 | .defer _ => A.bad
 | .bad => A.bad
def kOp (rec : Rec) (A : Alg R) (all rest : List Oper) (dst : Option Tmp) (a : Fr) (k : Fr → Heap → R) (v : AV) (h : Heap) : R := rec R A (.ops all rest (a.put dst v) h k)
def bx2 (rec : Rec) (A : Alg R) (all rest : List Oper) (a : Fr) (h : Heap) (k : Fr → Heap → R) (e : Option SX) : R := match e with
 | some e => A.ite e (rec R A (.ops all rest (a.cond (e, true)) h k)) (rec R A (.ops all rest (a.cond (e, false)) h k))
 | none => A.bad
def oGo (rec : Rec) (A : Alg R) (all rest : List Oper) (dst : Option Tmp) (a : Fr) (h : Heap) (k : Fr → Heap → R) (r : Res) : R := match r with
 | .defer d => match a.ro with
   | none => rec R A (.ops all rest ((a.mark [d]).put dst .undef) h k)
   | some _ => A.bad
 | r => cw7 rec A h (kOp rec A all rest dst a k) r
def cn3 (E : Env) (rec : Rec) (A : Alg R) (all rest : List Oper) (o : Oper) (a : Fr) (h : Heap) (k : Fr → Heap → R) (w : Option Bool) : R := match w with
 | some true => oGo rec A all rest o.dst a h k (u4 E a.ev o h)
 | some false => rec R A (.ops all rest (a.put o.dst .undef) h k)
 | none => bx2 rec A all (o :: rest) a h k (aQ0 all a o)
def cA8 (E : Env) (rec : Rec) (A : Alg R) (all rest : List Oper) (a : Fr) (h : Heap) (k : Fr → Heap → R) : R := match rest with
 | [] => k a h
 | o :: rest => cn3 E rec A all rest o a h k (n9 all a o)
def cF4 (E : Env) (rec : Rec) (A : Alg R) (all : List Oper) (rest : List PO) (pend : List Pend) (dst : Option Tmp) (a : Fr) (k : Fr → Heap → R) (v : AV) (h : Heap) : R :=
 bif Q3 E (a.put dst v) h pend then rec R A (.dops all rest pend (a.put dst v) h k) else A.bad
def bx3 (E : Env) (rec : Rec) (A : Alg R) (all : List Oper) (x : PO) (rest : List PO) (pend : List Pend) (a : Fr) (k : Fr → Heap → R) (r : Res) : R := match r with
 | .val v h => bif !(t7 x.o) || Q3 E (a.put x.o.dst v) h pend then rec R A (.dops all rest (⟨x.i, x.o, v, none⟩ :: pend) (a.put x.o.dst v) h k) else A.bad
 | .need e v h => bif !(t7 x.o) then needA A e (rec R A (.dops all rest (⟨x.i, x.o, v, some e⟩ :: pend) (a.put x.o.dst v) h k)) else A.bad
 | _ => A.bad
def b14 (rec : Rec) (A : Alg R) (all : List Oper) (rest : List PO) (pend : List Pend) (a : Fr) (h : Heap) (k : Fr → Heap → R) (e : Option SX) : R := match e with
 | some e => A.ite e (rec R A (.dops all rest pend (a.cond (e, true)) h k)) (rec R A (.dops all rest pend (a.cond (e, false)) h k))
 | none => A.bad
def bl4 (E : Env) (rec : Rec) (A : Alg R) (all : List Oper) (x : PO) (rest : List PO) (pend : List Pend) (a : Fr) (h : Heap) (k : Fr → Heap → R) (w : Option Bool) : R := match w with
 | some true => bif x.fl then bx3 E rec A all x rest pend a k (u4 E a.ev x.o h)
   else cw7 rec A h (cF4 E rec A all rest (pend.filter fun p => !(x.m.testBit p.i)) x.o.dst a k) (u4 E a.ev x.o h)
 | some false => rec R A (.dops all rest pend (a.put x.o.dst .undef) h k)
 | none => b14 rec A all (x :: rest) pend a h k (aQ0 all a x.o)
def cn4 (E : Env) (rec : Rec) (A : Alg R) (all : List Oper) (rest : List PO) (pend : List Pend) (a : Fr) (h : Heap) (k : Fr → Heap → R) : R := match rest with
 | [] => k a h
 | x :: rest => bl4 E rec A all x rest pend a h k (n9 all a x.o)
def c83 (v : AV) (h : Heap) : Option (AV × Heap) := some (v, h)
def c28 (wm : Nat) (o : Option (Bool × List Out)) (v : AV) (h : Heap) : Bool := cm7 (b09 wm h v) o
def cw8 (k : AV → Heap → R) (x : AV × Heap) : R := k x.1 x.2
def c29 (rec : Rec) (A : Alg R) (f : FuncId) (args : List AV) (h : Heap) (k : AV → Heap → R) (x : Option (Bool × List Out)) : R := match x with
 | none => A.bad
 | some (b, l) => bif rec Bool J6 (.body f args h.raise (c28 h.next (some (b, l)))) then cw8 k (aQ1 b l h) else A.bad
def bx4 (rec : Rec) (A : Alg R) (f : FuncId) (args : List AV) (h : Heap) (k : AV → Heap → R) (x : Option (AV × Heap)) : R := match x with
 | none => A.bad
 | some (v0, h0) => c29 rec A f args h k (b09 h.next h0 v0)
structure Cap2 where
 b : Nat
 full : List AV
 wide : List AV
 h : Heap
def capH (h : Heap) (b e : Nat) (cs : List AV) : Heap := ((h.put b none).raise).new (.cells e 0 cs)
def cw9 (args : List AV) (h : Heap) : Option Cap2 := match args with
 | .us b 0 len sz :: .int k (.ofNat i) :: rest => match h.get b with
   | some (.cells e 0 cs) => bif Nat.ble h.wm b && Nat.beq cs.length (len * sz) && Nat.blt i len && Nat.blt 0 sz then
    some ⟨b, .sl b 0 len len :: .int k (.ofNat i) :: rest, .us h.next 0 len sz :: .int k (.ofNat i) :: rest, capH h b e (cs ++ rep sz [.any])⟩
     else none
   | _ => none
 | _ => none
def c30 (rec : Rec) (A : Alg R) (f : FuncId) (h : Heap) (k : AV → Heap → R) (c : Cap2) (x : Option (Bool × List Out)) : R := match x with
 | none => A.bad
 | some (b, l) => bif rec Bool J6 (.body f c.full h.raise (c28 h.next (some (b, l)))) && rec Bool J6 (.body f c.wide c.h (c28 h.next (some (b, l)))) then
  cw8 k (aQ1 b l (h.put c.b none)) else A.bad
def c31 (rec : Rec) (A : Alg R) (f : FuncId) (h : Heap) (k : AV → Heap → R) (c : Cap2) (x : Option (AV × Heap)) : R := match x with
 | none => A.bad
 | some (v0, h0) => c30 rec A f h k c (b09 h.next h0 v0)
def c84 (rec : Rec) (A : Alg R) (f : FuncId) (args : List AV) (h : Heap) (k : AV → Heap → R) (c : Option Cap2) : R := match c with
 | none => rec R A (.body f args h k)
 | some c => c31 rec A f h k c (rec (Option (AV × Heap)) bv6 (.body f c.full h.raise c83))
def cn5 (E : Env) (rec : Rec) (A : Alg R) (f : FuncId) (args : List AV) (h : Heap) (k : AV → Heap → R) (x : Res) : R := match x with
 | .val v h => k v h
 | .need e v h => needA A e (k v h)
 | _ => bif E.amb f then bx4 rec A f args h k (rec (Option (AV × Heap)) bv6 (.body f args h.raise c83)) else
  bif E.caps f then c84 rec A f args h k (cw9 args h) else rec R A (.body f args h k)
def cn6 (E : Env) (rec : Rec) (A : Alg R) (f : FuncId) (args : List AV) (h : Heap) (k : AV → Heap → R) : R := cn5 E rec A f args h k (E.hook f args h)
def cj8 (A : Alg R) (h : Heap) (k : AV → Heap → R) (vs : Option (List AV)) : R := match vs with
 | some vs => k (c80 vs) h
 | none => A.bad
def c32 (P : Program) (rec : Rec) (A : Alg R) (rs : List ResultVar) (k : AV → Heap → R) (e : Ex) (a : Fr) (h : Heap) : R := match e with
 | .exit _ => A.bad
 | _ => match a.ds with
   | [] => cj8 A h k (ag4 P a h rs)
   | ds => rec R A (.leave rs a ds h k)
def bx5 (P : Program) (A : Alg R) (rs : List ResultVar) (k : AV → Heap → R) (e : Ex) (a : Fr) (h : Heap) : R := match e with
 | .exit _ => A.bad
 | _ => match a.ds with
   | [] => cj8 A h k (ag4 P a h rs)
   | _ => A.bad
def c85 (P : Program) (rec : Rec) (A : Alg R) (f : FuncId) (args : List AV) (h : Heap) (k : AV → Heap → R) (fn : Option Func) : R := match fn with
 | none => A.bad
 | some fn => match fn.body with
   | none => A.bad
   | some c => bif Nat.ble (Nat.max fn.ntmps args.length) 256 then rec R A (.code c ⟨M9 args 0 TF.empty, Nat.max fn.ntmps args.length, [], f, [], none⟩ h (c32 P rec A fn.results.toList k)) else A.bad
def c86 (P : Program) (rec : Rec) (A : Alg R) (f : FuncId) (args : List AV) (h : Heap) (k : AV → Heap → R) (fn : Option Func) : R := match fn with
 | none => A.bad
 | some fn => match fn.body with
   | none => A.bad
   | some c => bif Nat.ble (Nat.max fn.ntmps args.length) 256 then rec R A (.code c ⟨M9 args 0 TF.empty, Nat.max fn.ntmps args.length, [], f, [], none⟩ h (bx5 P A fn.results.toList k)) else A.bad
def cA9 (rec : Rec) (A : Alg R) (rs : List ResultVar) (a : Fr) (ds : List ADef) (k : AV → Heap → R) (_ : AV) (h : Heap) : R := rec R A (.leave rs a ds h k)
def lFn (rec : Rec) (A : Alg R) (rs : List ResultVar) (a : Fr) (ds : List ADef) (h : Heap) (k : AV → Heap → R) (r : Res) : R := match r with
 | .enter f args => rec R A (.dbody f args h (cA9 rec A rs a ds k))
 | _ => A.bad
def c87 (rec : Rec) (A : Alg R) (rs : List ResultVar) (a : Fr) (ds : List ADef) (b : Nat) (h : Heap) (k : AV → Heap → R) (x : Option Blk) : R := match x with
 | some (.defd false) => bif Nat.ble h.wm b then rec R A (.leave rs a ds (h.put b (some (.defd true))) k) else A.bad
 | _ => A.bad
def bx6 (E : Env) (rec : Rec) (A : Alg R) (rs : List ResultVar) (a : Fr) (ds : List ADef) (h : Heap) (k : AV → Heap → R) : R := match ds with
 | [] => cj8 A h k (ag4 E.P a h rs)
 | .coll b :: ds => c87 rec A rs a ds b h k (h.get b)
 | .fn f cap args :: ds => lFn rec A rs a ds h k (aP2 E f (args ++ cap) h)
def cn7 (E : Env) (rec : Rec) (A : Alg R) (f : FuncId) (args : List AV) (h : Heap) (k : AV → Heap → R) : R := c85 E.P rec A f args h k (E.P.funcs[f]?)
def cn8 (E : Env) (rec : Rec) (A : Alg R) (t : Task R) : R := match t with
 | .code c a h k => c27 E rec A c a h k
 | .loop c a h k => cn0 rec A c a h k (E.lspec a.fn (S4 c) a h)
 | .ops all rest a h k => cA8 E rec A all rest a h k
 | .dops all rest pend a h k => cn4 E rec A all rest pend a h k
 | .call f args h k => cn6 E rec A f args h k
 | .body f args h k => cn7 E rec A f args h k
 | .dbody f args h k => c86 E.P rec A f args h k (E.P.funcs[f]?)
 | .leave rs a ds h k => bx6 E rec A rs a ds h k
end
def cI0 (R : Type) (A : Alg R) (_ : Task R) : R := A.bad
def evS (E : Env) (_ : Nat) (rec : Rec) (R : Type) (A : Alg R) (t : Task R) : R := cn8 E rec A t
def ev (E : Env) (n : Nat) : Rec := Nat.rec (motive := fun _ => Rec) cI0 (evS E) n
end
end Go.Ev
