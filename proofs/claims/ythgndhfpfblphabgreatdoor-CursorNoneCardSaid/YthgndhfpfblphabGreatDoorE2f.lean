/- The evaluator: loops' patterns made of the state; contracts of functions. -/
import Derived.Test.YthgndhfpfblphabGreatDoorE2
set_option linter.unusedVariables false
namespace Go.Ev
open Go
noncomputable section

/-! ### Loops' patterns, made of the state -/
structure LGen where
  id : Nat
  v0 : Nat
  dead : List Nat
  /-- rows of its own: the slot; or the slot of a pointer to a variable, and the cell; element, columns -/
  own : List (Nat × Option Nat × Nat × List CT)
  abs : List Nat
  mem : List Nat
  fvs : List Nat
  exits : List (Ex × List (Nat × AV))
  /-- maps that it fills: the slot; the columns of keys and of values -/
  maps : List (Nat × List CT × List CT) := []
mutual
def leafX : AV → List SX
  | .oint _ e => [e]
  | .ostr e => [e]
  | .obool e => [e]
  | .osl _ x y _ => [x, y]
  | .ous _ x _ => [x]
  | .agg l => leafXs l
  | .iface _ x => leafX x
  | _ => []
def leafXs : List AV → List SX
  | [] => []
  | a :: r => leafX a ++ leafXs r
end
def leafB (x : Option Blk) : List SX := match x with
  | some (.cells _ _ cs) => leafXs cs
  | some (.arr _ _ l) => [l]
  | some (.marr _ _ l) => [l]
  | _ => []
def fresh1 (n : Nat) : SX := .va n
mutual
/-- The leaves become new symbols. -/
def absG (n : Nat) : AV → AV × Nat
  | .int k _ => (.oint k (.va n), n + 1)
  | .oint k _ => (.oint k (.va n), n + 1)
  | .str _ => (.ostr (.va n), n + 1)
  | .ostr _ => (.ostr (.va n), n + 1)
  | .bool _ => (.obool (.va n), n + 1)
  | .obool _ => (.obool (.va n), n + 1)
  | .osl b _ _ s => (.osl b (.va n) (.va (n + 1)) s, n + 2)
  | .ous b _ s => (.ous b (.va n) s, n + 1)
  | .agg l => match absGs n l with
    | (l', m) => (.agg l', m)
  | x => (x, n)
def absGs (n : Nat) : List AV → List AV × Nat
  | [] => ([], n)
  | a :: r => match absG n a with
    | (a', m) => match absGs m r with
      | (r', m') => (a' :: r', m')
end
def absGB (n : Nat) (x : Option Blk) : Option Blk × Nat := match x with
  | some (.cells e fz cs) => match absGs n cs with
    | (cs', m) => (some (.cells e fz cs'), m)
  | some (.arr e sig _) => (some (.arr e sig (.va n)), n + 1)
  | some (.marr ks vs _) => (some (.marr ks vs (.va n)), n + 1)
  | x => (x, n)
def memN (t : Nat) : List Nat → Bool
  | [] => false
  | a :: r => bif Nat.beq a t then true else memN t r
def lookN (t : Nat) : List (Nat × AV) → Option AV
  | [] => none
  | a :: r => bif Nat.beq a.1 t then some a.2 else lookN t r
/-- The slots of a list, in order, with new symbols. -/
def genSl (look : Nat → Option AV) : Nat → Nat → Nat → List (Nat × AV) × Nat
  | 0, _, n => ([], n)
  | m + 1, t, n => match look t with
    | some v => match absG n v with
      | (v', n') => match genSl look m (t + 1) n' with
        | (r, n'') => ((t, v') :: r, n'')
    | none => genSl look m (t + 1) n
/-- Which cells of a block become symbols: none of them; all (an empty list); or these. -/
def selB (b : Nat) : List (Nat × List Nat) → Option (List Nat)
  | [] => none
  | x :: r => bif Nat.beq x.1 b then (match x.2, selB b r with
    | [], _ => some []
    | l, some [] => some []
    | l, some l' => some (l ++ l')
    | l, none => some l) else selB b r
def absGc (l : List Nat) : Nat → Nat → List AV → List AV × Nat
  | _, n, [] => ([], n)
  | i, n, a :: r => bif memN i l then (match absG n a with
      | (a', m) => match absGc l (i + 1) m r with
        | (r', m') => (a' :: r', m'))
    else (match absGc l (i + 1) n r with
      | (r', m') => (a :: r', m'))
def absGD (l : List Nat) (n : Nat) (x : Option Blk) : Option Blk × Nat := match l, x with
  | _ :: _, some (.cells e fz cs) => (match absGc l 0 n cs with
    | (cs', m) => (some (.cells e fz cs'), m))
  | _, x => absGB n x
def genBl (bs : List (Nat × List Nat)) (h : Heap) : Nat → Nat → Nat → List (Nat × Option Blk) × Nat
  | 0, _, n => ([], n)
  | m + 1, b, n => match selB b bs with
    | some l => (match absGD l n (h.get b) with
      | (x, n') => match genBl bs h m (b + 1) n' with
        | (r, n'') => ((b, x) :: r, n''))
    | none => genBl bs h m (b + 1) n
def genSt (look : Nat → Option AV) (bs : List (Nat × List Nat)) (nt : Nat) (h : Heap) (v0 : Nat) : StP := match genSl look nt 0 v0 with
  | (sl, n) => match genBl bs h h.next 0 n with
    | (bl, _) => ⟨sl, bl, h.next⟩
def ownsG (a : Fr) (n : Nat) : List (Nat × Option Nat × Nat × List CT) → List OwnP
  | [] => []
  | (t, none, e, sig) :: r => ⟨t, n, e, sig, none⟩ :: ownsG a (n + 1) r
  | (t, some i, e, sig) :: r => (match a.slot t with
    | .ptr b o => ⟨t, n, e, sig, some (b, o + i)⟩
    | _ => ⟨t, n, e, sig, none⟩) :: ownsG a (n + 1) r
mutual
def blkOf : AV → List Nat
  | .ptr b _ => [b]
  | .osl b _ _ _ => [b]
  | .ous b _ _ => [b]
  | .map b => [b]
  | .agg l => blkOfs l
  | _ => []
def blkOfs : List AV → List Nat
  | [] => []
  | a :: r => blkOf a ++ blkOfs r
end
def lookS (a : Fr) (l : List Nat) (t : Nat) : Option AV := bif memN t l then some (a.slot t) else none
def lookX (a : Fr) (l : List Nat) (x : List (Nat × AV)) (t : Nat) : Option AV := match lookN t x with
  | some v => some v
  | none => lookS a l t
def deepB (h : Heap) (x : Option Blk) : List SX := match x with
  | some (.cells _ _ cs) => (blkOfs cs).flatMap fun b => leafB (h.get b)
  | _ => []
def cellsB (h : Heap) (b : Nat) : List Nat := match h.get b with
  | some (.cells _ _ cs) => blkOfs cs
  | _ => []
def rowX (h : Heap) (b : Nat) : List SX := match h.get b with
  | some (.arr _ _ l) => [l]
  | _ => []
/-- The outer symbols of a slot; from 1000 on: of the rows that its block's cells name; from 2000 on: one step farther. -/
def fvS (a : Fr) (h : Heap) (t : Nat) : List SX :=
  bif Nat.ble 2000 t then ((blkOf (a.slot (t - 2000))).flatMap (cellsB h)).flatMap fun b => (cellsB h b).flatMap (rowX h)
  else bif Nat.ble 1000 t then (blkOf (a.slot (t - 1000))).flatMap fun b => (cellsB h b).flatMap (rowX h)
  else leafX (a.slot t) ++ ((blkOf (a.slot t)).flatMap fun b => leafB (h.get b) ++ deepB h (h.get b))
def fvG (a : Fr) (h : Heap) : List Nat → List SX
  | [] => []
  | t :: r => fvS a h t ++ fvG a h r
def allC (l : List Nat) : List (Nat × List Nat) := l.map fun b => (b, [])
/-- The block of a slot; from 1000 on, the blocks that its cells name; from 10000 on: one cell (in hundreds) of a slot's block. -/
def memB (a : Fr) (h : Heap) (t : Nat) : List (Nat × List Nat) := bif Nat.ble 10000 t then (blkOf (a.slot (t % 100))).map fun b => (b, [(t - 10000) / 100])
  else bif Nat.ble 1000 t then allC ((blkOf (a.slot (t - 1000))).flatMap (cellsB h)) else allC (blkOf (a.slot t))
def genL2 (g : LGen) (owns : List OwnP) (p : Fr × Heap) (bs : List (Nat × List Nat)) : LSpec :=
  ⟨g.id, owns, g.v0, fvG p.1 p.2 g.fvs, g.dead, genSt (lookS p.1 g.abs) bs p.1.nt p.2 g.v0, g.exits.map fun x => (x.1, genSt (lookX p.1 g.abs x.2) bs p.1.nt p.2 g.v0)⟩
def layMaps (a : Fr) : List (Nat × List CT × List CT) → Heap → Heap
  | [], h => h
  | (t, ks, vs) :: r, h => (match a.slot t with
    | .map b => (match h.get b with
      | some (.map [] _) => layMaps a r (h.put b (some (.marr ks vs (.op .row []))))
      | _ => layMaps a r h)
    | _ => layMaps a r h)
def genL (g : LGen) (a : Fr) (h : Heap) : LSpec :=
  match ownsG a h.next g.own with
  | owns => match prep ⟨g.id, owns, g.v0, [], g.dead, ⟨[], [], 0⟩, []⟩ (normOs owns a h).2 (h.upto (Nat.add h.next owns.length)) with
    | p => genL2 g owns (p.1, layMaps p.1 g.maps p.2) (allC (owns.map (·.blk)) ++ (g.mem.map (memB p.1 p.2)).flatten)

/-! ### Contracts of functions -/
mutual
def flatA : AV → List AV
  | .agg cs => cs
  | .tup vs => flatAs vs
  | v => [v]
def flatAs : List AV → List AV
  | [] => []
  | a :: r => flatA a ++ flatAs r
end

inductive BSrc where
  | whole (b : Nat)
  | view (v : AV)
  deriving Inhabited
/-- What a function does: told on blocks 0, 1, .., symbols 0, 1, ..; what comes back in symbols from 1000 on. -/
structure FC where
  args : List AV
  blks : List Blk
  mt : Nat
  need : SX
  out : AV
  post : List (Option Blk)
  outs : List SX
mutual
def substX (es : List SX) : SX → SX
  | .va n => es.getD n (.va n)
  | .op p l => .op p (substXs es l)
  | .app f l => .app f (substXs es l)
  | x => x
def substXs (es : List SX) : List SX → List SX
  | [] => []
  | a :: r => substX es a :: substXs es r
end
/-- A slice's elements, as rows. -/
def viewC (sz : Nat) (sig : List CT) (n : Nat) (cs : List AV) : Option (SX × SX) := match rowsC sig sz n cs with
  | some rs => some (.cb true, .op .row rs)
  | none => none
def viewX (sz elem : Nat) (sig : List CT) (x : AV) (h : Heap) : Option (SX × SX) := match x with
  | .nils => some (.cb true, .op .row [])
  | .ous b len s => match h.get b with
    | some (.arr e sg l) => bif Nat.beq s sz && Nat.beq e elem && sigBeq sg sig then (bif SX.beq len (.op .llen [l]) then some (.cb true, l) else some (.op .and [.op (.cmp .leq) [.ci 0, len], .op (.cmp .leq) [len, .op .llen [l]]], .op .lsub [l, .ci 0, len])) else none
    | _ => none
  | .osl b off len s => match h.get b with
    | some (.arr e sg l) => bif Nat.beq s sz && Nat.beq e elem && sigBeq sg sig then (bif SX.beq off (.ci 0) && SX.beq len (.op .llen [l]) then some (.cb true, l) else some (.op .and [.op (.cmp .leq) [.ci 0, off], .op .and [.op (.cmp .leq) [.ci 0, len], .op (.cmp .leq) [.op .iadd [off, len], .op .llen [l]]]], .op .lsub [l, off, .op .iadd [off, len]])) else none
    | _ => none
  | .sl b o n c => match h.get b with
    | some (.cells e fz cs) => bif Nat.beq e elem && Nat.ble n c && Nat.ble fz o && Nat.ble (o + n * sz) cs.length && Nat.blt 0 n then viewC sz sig n ((cs.drop o).take (n * sz)) else none
    | _ => none
  | .us b o n s => match h.get b with
    | some (.cells e fz cs) => bif Nat.blt 0 sz && Nat.beq s sz && Nat.beq e elem && Nat.ble fz o && Nat.ble (o + n * sz) cs.length then viewC sz sig n ((cs.drop o).take (n * sz)) else none
    | _ => none
  | _ => none
/-- A view whose pattern does not ask for the element's type takes the block's own. -/
def blkE (elem : Nat) (x : Option Blk) : Nat := match x with
  | some (.arr e _ _) => e
  | some (.cells e _ _) => e
  | _ => elem
def viewT (x : AV) (h : Heap) (elem : Nat) : Nat := match x with
  | .ous b _ _ => blkE elem (h.get b)
  | .osl b _ _ _ => blkE elem (h.get b)
  | .sl b _ _ _ => blkE elem (h.get b)
  | .us b _ _ _ => blkE elem (h.get b)
  | _ => elem
def elemAt (x : AV) (h : Heap) (elem : Nat) : Nat := bif Nat.beq elem anyE then viewT x h elem else elem
def viewE (sz elem : Nat) (sig : List CT) (x : AV) (h : Heap) : Option (SX × SX) := viewX sz (elemAt x h elem) sig x h
structure Bnd where
  src : List (Nat × BSrc)
  sx : List (Nat × SX)
def hasK {α : Type} (i : Nat) : List (Nat × α) → Bool
  | [] => false
  | a :: r => bif Nat.beq a.1 i then true else hasK i r
def Bnd.addS (B : Bnd) (i : Nat) (s : BSrc) : Bnd := bif hasK i B.src then B else ⟨(i, s) :: B.src, B.sx⟩
def getK {α : Type} (i : Nat) : List (Nat × α) → Option α
  | [] => none
  | a :: r => bif Nat.beq a.1 i then some a.2 else getK i r
/-- Several columns of one symbol: told by a row, where they are not that of one already. -/
def Bnd.addG (B : Bnd) (j : Nat) (x : SX) : Bnd := match getK j B.sx with
  | none => (match x with
    | .op .lget [.app f l, .ci (.ofNat 0), _] => ⟨B.src, (j, .app f l) :: B.sx⟩
    | .op .lget [.va n, .ci (.ofNat 0), _] => ⟨B.src, (j, .va n) :: B.sx⟩
    | x => ⟨B.src, (j, .op .row [.op .row [x]]) :: B.sx⟩)
  | some (.op .row [.op .row l]) => ⟨B.src, (j, .op .row [.op .row (l ++ [x])]) :: B.sx⟩
  | some _ => B
def Bnd.addX (B : Bnd) (p x : SX) : Bnd := match p with
  | .va j => bif hasK j B.sx then B else ⟨B.src, (j, x) :: B.sx⟩
  | .op .lget [.va j, _, _] => B.addG j x
  | _ => B
def Bnd.addO (B : Bnd) (p : SX) (x : Option SX) : Bnd := match x with
  | some x => B.addX p x
  | none => B
def isView (p q : SX) : Bool := match p, q with
  | .ci 0, .op .llen _ => true
  | _, _ => false
mutual
/-- What the arguments bind. -/
def bindA (B : Bnd) : AV → AV → Bnd
  | .oint _ p, x => B.addO p ((symI x).map (·.2))
  | .ostr p, x => B.addO p (symS x)
  | .obool p, x => B.addO p (symB x)
  | .agg ps, .agg xs => bindAs B ps xs
  | .iface _ p, .iface _ x => bindA B p x
  | .func _ a b, .func _ c d => bindAs (bindAs B a c) b d
  | .ptr i _, .ptr b _ => B.addS i (.whole b)
  | .sl i _ _ _, .sl b _ _ _ => B.addS i (.whole b)
  | .osl i p q _, x => bif isView p q then B.addS i (.view x) else (match x with
    | .osl b p' q' _ => ((B.addS i (.whole b)).addX p p').addX q q'
    | _ => B)
  | .ous i q _, .ous b q' _ => (B.addS i (.whole b)).addX q q'
  | _, _ => B
def bindAs (B : Bnd) : List AV → List AV → Bnd
  | [], _ => B
  | _ :: _, [] => B
  | p :: ps, x :: xs => bindAs (bindA B p x) ps xs
end
def bindB (h : Heap) (B : Bnd) (p : Blk) (s : Option BSrc) : Bnd := match s with
  | some (.whole b) => (match p, h.get b with
    | .cells _ _ ps, some (.cells _ _ xs) => bindAs B ps xs
    | .arr _ _ q, some (.arr _ _ l) => B.addX q l
    | _, _ => B)
  | some (.view v) => (match p with
    | .arr e sig q => (match viewE sig.length e sig v h with
      | some (_, l) => B.addX q l
      | none => B)
    | _ => B)
  | none => B
def bindBs (h : Heap) (B : Bnd) : List Blk → Nat → Bnd
  | [], _ => B
  | p :: r, i => bindBs h (bindB h B p (getK i B.src)) r (i + 1)
def listK {α : Type} (l : List (Nat × α)) : Nat → Nat → Option (List α)
  | 0, _ => some []
  | n + 1, i => match getK i l, listK l n (i + 1) with
    | some x, some r => some (x :: r)
    | _, _ => none
/-- Plain: names no block and no symbol. -/
def plainA : AV → Bool
  | .bool _ | .int _ _ | .str _ | .nilp | .glob _ | .nils | .nilm | .nilf | .nili => true
  | _ => false
def isWhole (s : Option BSrc) (b : Nat) : Bool := match s with
  | some (.whole c) => Nat.beq c b
  | _ => false
def isViewOf (s : Option BSrc) (x : AV) : Bool := match s with
  | some (.view v) => AV.beq v x
  | _ => false
def redG (e : SX) : SX := match e with
  | .op .lget [.op .row [.op .row l], .ci (.ofNat 0), .ci (.ofNat k)] => (match l[k]? with
    | some x => x
    | none => e)
  | e => e
def cmpX (es : List SX) (p x : SX) : Bool := SX.beq (redG (substX es p)) x
def ckX (es : List SX) (p : SX) (x : Option SX) : Bool := match x with
  | some x => cmpX es p x
  | none => false
def ckI (es : List SX) (k : IntKind) (p : SX) (x : Option (IntKind × SX)) : Bool := match x with
  | some (k', x) => decide (k = k') && cmpX es p x
  | none => false
def viewB (blks : List Blk) (i s : Nat) (q : SX) : Bool := match blks[i]? with
  | some (.arr _ sig l) => Nat.beq sig.length s && SX.beq q (.op .llen [l])
  | _ => false
def ckOsl (src : List BSrc) (es : List SX) (i : Nat) (p q : SX) (s : Nat) (x : AV) : Bool := match x with
  | .osl b p' q' s' => Nat.beq s s' && isWhole src[i]? b && cmpX es p p' && cmpX es q q'
  | _ => false
def ckOus (src : List BSrc) (es : List SX) (i : Nat) (q : SX) (s : Nat) (x : AV) : Bool := match x with
  | .ous b q' s' => Nat.beq s s' && isWhole src[i]? b && SX.beq (substX es q) q'
  | _ => false
def ckPtr (src : List BSrc) (i o : Nat) (x : AV) : Bool := match x with
  | .ptr b o' => Nat.beq o o' && isWhole src[i]? b
  | _ => false
def ckSl (src : List BSrc) (i o n c : Nat) (x : AV) : Bool := match x with
  | .sl b o' n' c' => Nat.beq o o' && Nat.beq n n' && Nat.beq c c' && isWhole src[i]? b
  | _ => false
mutual
/-- An argument is as told. -/
def ckA (src : List BSrc) (es : List SX) (blks : List Blk) : AV → AV → Bool
  | .oint k p, x => ckI es k p (symI x)
  | .ostr p, x => ckX es p (symS x)
  | .obool p, x => ckX es p (symB x)
  | .agg ps, x => (match x with
    | .agg xs => ckAs src es blks ps xs
    | _ => false)
  | .iface t p, x => (match x with
    | .iface u y => Nat.beq t u && ckA src es blks p y
    | _ => false)
  | .func f a b, x => (match x with
    | .func g c d => decide (f = g) && ckAs src es blks a c && ckAs src es blks b d
    | _ => false)
  | .ptr i o, x => ckPtr src i o x
  | .sl i o n c, x => ckSl src i o n c x
  | .osl i p q s, x => bif isView p q then viewB blks i s q && isViewOf src[i]? x else ckOsl src es i p q s x
  | .ous i q s, x => ckOus src es i q s x
  | p, x => plainA p && AV.beq p x
def ckAs (src : List BSrc) (es : List SX) (blks : List Blk) : List AV → List AV → Bool
  | [], xs => (match xs with
    | [] => true
    | _ => false)
  | p :: ps, xs => (match xs with
    | x :: xs => ckA src es blks p x && ckAs src es blks ps xs
    | _ => false)
end
/-- A block is as told; what is to be shown besides. -/
def ckB (src : List BSrc) (es : List SX) (blks : List Blk) (h : Heap) (p : Blk) (s : BSrc) : Option SX := match s with
  | .whole b => (match p, h.get b with
    | .cells e fz ps, some (.cells e' fz' xs) => bif Nat.beq e e' && Nat.beq fz fz' && ps.all AV.oneA && ckAs src es blks ps xs then some (.cb true) else none
    | .arr e sig q, some (.arr e' sig' l) => bif Nat.beq e e' && sigBeq sig sig' && SX.beq (substX es q) l then some (.cb true) else none
    | _, _ => none)
  | .view v => (match p with
    | .arr e sig q => (match viewE sig.length e sig v h with
      | some (nd, l) => bif SX.beq (substX es q) l then some nd else none
      | none => none)
    | _ => none)
def ckBs (src : List BSrc) (es : List SX) (blks : List Blk) (h : Heap) : List Blk → List BSrc → Option SX
  | [], [] => some (.cb true)
  | p :: ps, s :: ss => match ckB src es blks h p s, ckBs src es blks h ps ss with
    | some a, some b => some (andS a b)
    | _, _ => none
  | _, _ => none
def baseOf : BSrc → Option Nat
  | .whole b => some b
  | .view (.ous b _ _) => some b
  | .view (.osl b _ _ _) => some b
  | .view (.sl b _ _ _) => some b
  | .view (.us b _ _ _) => some b
  | .view _ => none
def neB (a b : Option Nat) : Bool := match a, b with
  | some x, some y => !(Nat.beq x y)
  | _, _ => true
def arrB (p : Option Blk) : Bool := match p with
  | some (.arr _ _ _) => true
  | _ => false
def arrH (h : Heap) (b : Option Nat) : Bool := match b with
  | some b => arrB (h.get b)
  | none => false
def geB (n : Nat) (b : Option Nat) : Bool := match b with
  | some b => Nat.ble n b
  | none => true
/-- Two blocks lie apart, where that is asked for. -/
def sep2 (blks : List Blk) (mt : Nat) (h : Heap) (i j : Nat) (a b : Option Nat) : Bool :=
  (Nat.blt i mt && Nat.blt j mt && arrB blks[i]? && arrB blks[j]?) || (neB a b && (geB h.wm a || geB h.wm b || !(arrH h a) || !(arrH h b)))
def sep1 (blks : List Blk) (mt : Nat) (h : Heap) (i : Nat) (s : BSrc) : List BSrc → Nat → Bool
  | [], _ => true
  | t :: r, j => sep2 blks mt h i j (baseOf s) (baseOf t) && sep1 blks mt h i s r (j + 1)
def seps (blks : List Blk) (mt : Nat) (h : Heap) : List BSrc → Nat → Bool
  | [], _ => true
  | s :: r, i => sep1 blks mt h i s r (i + 1) && seps blks mt h r (i + 1)
def heldIn (b : Nat) : List AV → Bool
  | [] => false
  | x :: r => (match x with
    | .ptr c _ => Nat.beq c b
    | _ => false) || heldIn b r
def heldC (h : Heap) (b c : Nat) : Bool := match h.get c with
  | some (.cells _ _ cs) => heldIn b cs
  | _ => false
def heldS (args : List AV) (h : Heap) (b : Nat) : List BSrc → Bool
  | [] => false
  | s :: r => (match s with
    | .whole c => heldIn c args && heldC h b c
    | .view _ => false) || heldS args h b r
/-- What may be written is the caller's own, and held. -/
def isNoneB (x : Option (Option Blk)) : Bool := match x with
  | some none => true
  | _ => false
def mutOk (mt : Nat) (args : List AV) (h : Heap) (all : List BSrc) (post : List (Option Blk)) : List BSrc → Nat → Bool
  | [], _ => true
  | s :: r, i => (Nat.blt i mt || (match s with
    | .whole b => Nat.ble h.wm b && Nat.blt b h.next && (isNoneB post[i - mt]? || heldIn b args || heldS args h b all || arrB (h.get b))
    | .view _ => false)) && mutOk mt args h all post r (i + 1)
def plcl (e : SX) : Bool := (plcOf 1000 e).isSome || freshX 0 e
def isW (src : List BSrc) (i : Nat) : Bool := match src[i]? with
  | some (.whole _) => true
  | _ => false
/-- What comes back is told in new symbols alone, on the caller's blocks and new rows. -/
def clA (src : List BSrc) (mt : Nat) (post : List (Option Blk)) (p : AV) : Bool := match p with
  | .oint _ e => plcl e
  | .ostr e => plcl e
  | .obool e => plcl e
  | .osl i x y _ => isW src i && plcl x && plcl y
  | .ous i x s => bif Nat.ble src.length i then (match x, post[i - mt]? with
      | .op .llen [q], some (some (.arr _ sig q')) => SX.beq q q' && Nat.beq sig.length s
      | _, _ => false) else isW src i && (plcOf 1000 x).isSome
  | .ptr i _ => isW src i
  | p => plainA p
def notNew (n : Nat) (p : AV) : Bool := match p with
  | .ous i _ _ => Nat.blt i n
  | _ => true
def clB (src : List BSrc) (mt : Nat) (post : List (Option Blk)) (x : Option Blk) : Bool := match x with
  | none => true
  | some (.cells _ _ ps) => ps.all fun p => clA src mt post p && notNew src.length p && p.oneA
  | some (.arr _ _ q) => plcl q
  | _ => false
def isRow (x : Option Blk) : Bool := match x with
  | some (.arr _ _ q) => plcl q
  | _ => false
def clPost (src : List BSrc) (mt : Nat) (post : List (Option Blk)) : List (Option Blk) → Nat → Bool
  | [], i => Nat.ble src.length i
  | x :: r, i => bif Nat.blt i src.length then clB src mt post x && clPost src mt post r (i + 1) else isRow x && clPost src mt post r (i + 1)
def maxVa : Nat → List Blk → Nat
  | n, [] => n
  | n, _ :: r => maxVa n r
structure Binding where
  src : List BSrc
  es : List SX
  nd : SX
/-- What a contract is told in. -/
def fcOk (c : FC) (nv : Nat) : Bool := okAs nv c.blks.length c.args && c.blks.all (fun x => okB nv c.blks.length (some x)) && freshX nv c.need && freshXs nv c.outs && Nat.ble c.mt c.blks.length && Nat.blt c.blks.length 60000 && c.blks.all (fun x => match x with
  | .cells _ _ _ => true
  | .arr _ _ _ => true
  | _ => false)
/-- The blocks first, by what names them; then the symbols. -/
def bindAll (c : FC) (args : List AV) (h : Heap) : Bnd :=
  bindBs h (bindAs ⟨(bindBs h ⟨(bindBs h (bindAs ⟨[], []⟩ c.args args) c.blks 0).src, []⟩ c.blks 0).src, []⟩ c.args args) c.blks 0
def bindF (c : FC) (nv : Nat) (args : List AV) (h : Heap) : Option Binding :=
  match bindAll c args h with
  | B => match listK B.src c.blks.length 0, listK B.sx nv 0 with
    | some src, some es => bif ckAs src es c.blks c.args args && seps c.blks c.mt h src 0 && mutOk c.mt args h src c.post src 0 && clPost src c.mt c.post c.post c.mt && (flatA c.out).all (clA src c.mt c.post) then (match ckBs src es c.blks h c.blks src with
      | some nd => some ⟨src, es, nd⟩
      | none => none) else none
    | _, _ => none
/-- The answer, laid on the caller's heap. -/
def instO (es outs : List SX) (k : Nat) : SX := substX es (outs.getD k (.cb false))
def srcB (src : List BSrc) (n : Nat) (i : Nat) : Nat := match src[i]? with
  | some (.whole b) => b
  | some (.view _) => n
  | none => n + (i - src.length)
mutual
def renA (ρ : Nat → Nat) : AV → AV
  | .ptr b o => .ptr (ρ b) o
  | .sl b o n c => .sl (ρ b) o n c
  | .us b o n s => .us (ρ b) o n s
  | .es b o s => .es (ρ b) o s
  | .map b => .map (ρ b)
  | .func fn a c => .func fn (renAs ρ a) (renAs ρ c)
  | .yield b => .yield (ρ b)
  | .iface t v => .iface t (renA ρ v)
  | .agg l => .agg (renAs ρ l)
  | .tup l => .tup (renAs ρ l)
  | .osl b x y s => .osl (ρ b) x y s
  | .optr b x j s => .optr (ρ b) x j s
  | .ous b x s => .ous (ρ b) x s
  | x => x
def renAs (ρ : Nat → Nat) : List AV → List AV
  | [] => []
  | a :: r => renA ρ a :: renAs ρ r
end
def renBl (ρ : Nat → Nat) : Option Blk → Option Blk
  | some (.cells e fz cs) => some (.cells e fz (renAs ρ cs))
  | some (.arr e sig l) => some (.arr e sig l)
  | _ => none
mutual
def instT (q : Nat → SX) : AV → AV
  | .oint k e => intA k (instX 1000 q e)
  | .ostr e => .ostr (instX 1000 q e)
  | .obool e => .obool (instX 1000 q e)
  | .agg l => .agg (instTs q l)
  | .tup l => .tup (instTs q l)
  | .osl b x y s => .osl b (instX 1000 q x) (instX 1000 q y) s
  | .ous b x s => .ous b (instY q x) s
  | x => x
def instTs (q : Nat → SX) : List AV → List AV
  | [] => []
  | a :: r => instT q a :: instTs q r
def instY (q : Nat → SX) : SX → SX
  | .op .llen [x] => .op .llen [instX 1000 q x]
  | x => instX 1000 q x
end
def instBT (q : Nat → SX) : Option Blk → Option Blk
  | some (.cells e fz cs) => some (.cells e fz (instTs q cs))
  | some (.arr e sig l) => some (.arr e sig (instX 1000 q l))
  | x => x
/-- The blocks that she may have written get what she left; her new ones follow. -/
def layPost (ρ : Nat → Nat) (q : Nat → SX) (m : Nat) : List (Option Blk) → Nat → Heap → Heap
  | [], _, h => h
  | x :: r, i, h => layPost ρ q m r (i + 1) (bif Nat.blt i m then h.put (ρ i) (renBl ρ (instBT q x)) else (match renBl ρ (instBT q x) with
    | some y => h.new y
    | none => h))
def needR (e : SX) (v : AV) (h : Heap) : Res := match e with
  | .cb true => .val v h
  | e => .need e v h
def fcAns (c : FC) (b : Binding) (h : Heap) : Res :=
  needR (andS b.nd (substX b.es c.need)) (renA (srcB b.src h.next) (instT (instO b.es c.outs) c.out)) (layPost (srcB b.src h.next) (instO b.es c.outs) c.blks.length c.post c.mt h)
/-- A row of the caller's own that is handed on in part: the rest of it is given up. -/
def trunc1 (x : AV) (h : Heap) : Option (SX × AV × Heap) := match x with
  | .ous b len s => (match h.get b with
    | some (.arr e sig l) => bif Nat.ble h.wm b && !(SX.beq len (.op .llen [l])) && Nat.beq s sig.length then
        some (.op .and [.op (.cmp .leq) [.ci 0, len], .op (.cmp .leq) [len, .op .llen [l]]], .ous b (.op .llen [.op .lsub [l, .ci 0, len]]) s, h.put b (some (.arr e sig (.op .lsub [l, .ci 0, len])))) else none
    | _ => none)
  | _ => none
def truncs : List AV → Heap → SX × List AV × Heap
  | [], h => (.cb true, [], h)
  | x :: r, h => match trunc1 x h with
    | some (e, x', h') => (match truncs r h' with
      | (e', r', h2) => (andS e e', x' :: r', h2))
    | none => (match truncs r h with
      | (e', r', h2) => (e', x :: r', h2))
def moreNd (nd : SX) (r : Res) : Res := match r with
  | .val v h => needR nd v h
  | .need e v h => .need (andS nd e) v h
  | _ => .bad
def fcHook1 (c : FC) (nv : Nat) (args : List AV) (h : Heap) : Res := match bindF c nv args h with
  | some b => fcAns c b h
  | none => .bad
def fcHook (c : FC) (nv : Nat) (args : List AV) (h : Heap) : Res := match bindF c nv args h with
  | some b => fcAns c b h
  | none => (match truncs args h with
    | (nd, args', h') => moreNd nd (fcHook1 c nv args' h'))


/-! What a run must leave for a contract. -/
mutual
def sameSh : AV → AV → Bool
  | .tup a, x => (match x with
    | .tup b => sameShs a b
    | _ => false)
  | .agg a, x => (match x with
    | .agg b => Nat.beq a.length b.length
    | _ => false)
  | _, x => (match x with
    | .tup _ => false
    | .agg _ => false
    | _ => true)
def sameShs : List AV → List AV → Bool
  | [], x => (match x with
    | [] => true
    | _ => false)
  | a :: r, x => (match x with
    | b :: q => sameSh a b && sameShs r q
    | [] => false)
end
def fcRow (post : List (Option Blk)) (k : Nat) : Option (Nat × List CT) := match post[k]? with
  | some (some (.arr e sig _)) => some (e, sig)
  | _ => none
/-- The new rows among the results. -/
def ownsF (post : List (Option Blk)) (mt m base : Nat) : List AV → Nat → List OwnP
  | [], _ => []
  | .ous i _ _ :: r, t => bif Nat.ble m i then (match fcRow post (i - mt) with
    | some (e, sig) => ⟨t, base + (i - m), e, sig, none⟩ :: ownsF post mt m base r (t + 1)
    | none => ownsF post mt m base r (t + 1)) else ownsF post mt m base r (t + 1)
  | _ :: r, t => ownsF post mt m base r (t + 1)
def isOwn (h : Heap) (b s : Nat) (x : AV) : Bool := match x, h.get b with
  | .ous c (.op .llen [l]) s', some (.arr _ _ l') => Nat.beq b c && Nat.beq s s' && SX.beq l l'
  | _, _ => false
def absF1 (m base n : Nat) (h : Heap) (p x : AV) : Option (List SX) := match p with
  | .ous i q s => bif Nat.ble m i then (bif isOwn h (base + (i - m)) s x then some [] else none) else absA 1000 base n (.ous i q s) x
  | p => absA 1000 base n p x
def absFs (m base : Nat) (h : Heap) (a : Fr) : List AV → Nat → Nat → Option (List SX)
  | [], _, _ => some []
  | p :: ps, t, n => match absF1 m base n h p (a.slot t) with
    | some e => match absFs m base h a ps (t + 1) (n + e.length) with
      | some es => some (e ++ es)
      | none => none
    | none => none
def absFb (m base : Nat) (h : Heap) : List (Option Blk) → Nat → Nat → Option (List SX)
  | [], _, _ => some []
  | p :: ps, i, n => match absOB 1000 base n p (h.get (bif Nat.blt i m then i else base + (i - m))) with
    | some e => match absFb m base h ps (i + 1) (n + e.length) with
      | some es => some (e ++ es)
      | none => none
    | none => none
def reds (pc : PC) : List SX → List SX
  | [] => []
  | e :: r => redD pc 16 e :: reds pc r
def kFC3 (c : FC) (m base : Nat) (p : Fr × Heap) (pc : PC) : VT := match absFs m base p.2 p.1 (flatA c.out) 0 0 with
  | some es => match absFb m base p.2 c.post c.mt es.length with
    | some fs => .ret 0 (reds pc (es ++ fs))
    | none => .bad
  | none => .bad
def kFC2 (c : FC) (m base : Nat) (owns : List OwnP) (xs : List AV) (h : Heap) (pc : PC) : VT :=
  match convs owns ⟨putArgs xs 0 TF.empty, xs.length, [], 0, [], none⟩ (h.upto (Nat.add base owns.length)) with
  | some p => kFC3 c m base p pc
  | none => .bad
/-- A row's length told as its list's. -/
def normA (h : Heap) (x : AV) : SX × AV := match x with
  | .ous r len s => match h.get r with
    | some (.arr _ _ l) => bif SX.beq len (.op .llen [l]) then (.cb true, x) else (.op (.cmp .eql) [len, .op .llen [l]], .ous r (.op .llen [l]) s)
    | _ => (.cb true, x)
  | x => (.cb true, x)
def normAs (h : Heap) : List AV → SX × List AV
  | [] => (.cb true, [])
  | a :: r => match normA h a, normAs h r with
    | (e, x), (e', xs) => (andS e e', x :: xs)
def kFC1 (c : FC) (h : Heap) (p : SX × List AV) : RPT := ptAlg.need p.1 (kFC2 c c.blks.length h.next (ownsF c.post c.mt c.blks.length h.next (flatA c.out) 0) p.2 h)
def kFC (c : FC) (v : AV) (h : Heap) : RPT :=
  bif sameSh c.out v && Nat.ble (flatA v).length 256 then kFC1 c h (normAs h (flatA v)) else fun _ => .bad
/-- Her own heap. -/
def layBlks : List Blk → Heap → Heap
  | [], h => h
  | x :: r, h => layBlks r (h.new x)
def hsetwm (wm : Nat) (t : TH) (next _ : Nat) : Heap := ⟨t, next, wm⟩
def Heap.setwm (h : Heap) (wm : Nat) : Heap := Heap.rec (hsetwm wm) h
def FC.heap (c : FC) : Heap := (layBlks c.blks Heap.empty).setwm c.mt
def FC.run (E : Env) (fuel : Nat) (f : FuncId) (c : FC) (args : List AV) : VT := ev E fuel RPT ptAlg (.body f args c.heap (kFC c)) []

end
end Go.Ev
