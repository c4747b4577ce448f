import Derived.Test.YthdedeijapoihaaGreatDoorE2
set_option autoImplicit false
set_option linter.unusedVariables false
namespace Go.Ev
open Go
noncomputable section
structure LGen where
 id : Nat
 v0 : Nat
 dead : List Nat
 own : List (Nat × Option Nat × Nat × List CT)
 abs : List Nat
 mem : List Nat
 fvs : List Nat
 exits : List (Ex × List (Nat × AV))
 maps : List (Nat × List CT × List CT) := []
 gone : List Ex := []
mutual
def c07 : AV → List SX
 | .oint _ e => [e]
 | .ostr e => [e]
 | .obool e => [e]
 | .osl _ x y _ => [x, y]
 | .ous _ x _ => [x]
 | .agg l => bt0 l
 | .iface _ x => c07 x
 | _ => []
def bt0 : List AV → List SX
 | [] => []
 | a :: r => c07 a ++ bt0 r
end
def ce9 (x : Option Blk) : List SX := match x with
 | some (.cells _ _ cs) => bt0 cs
 | some (.arr _ _ l) => [l]
 | some (.marr _ _ l) => [l]
 | _ => []
mutual
def cr9 (n : Nat) : AV → AV × Nat
 | .int k _ => (.oint k (.va n), n + 1)
 | .oint k _ => (.oint k (.va n), n + 1)
 | .str _ => (.ostr (.va n), n + 1)
 | .ostr _ => (.ostr (.va n), n + 1)
 | .bool _ => (.obool (.va n), n + 1)
 | .obool _ => (.obool (.va n), n + 1)
 | .osl b _ _ s => (.osl b (.va n) (.va (n + 1)) s, n + 2)
 | .ous b _ s => (.ous b (.va n) s, n + 1)
 | .agg l => match c08 n l with
   | (l', m) => (.agg l', m)
 | x => (x, n)
def c08 (n : Nat) : List AV → List AV × Nat
 | [] => ([], n)
 | a :: r => match cr9 n a with
   | (a', m) => match c08 m r with
     | (r', m') => (a' :: r', m')
end
def cs0 (n : Nat) (x : Option Blk) : Option Blk × Nat := match x with
 | some (.cells e fz cs) => match c08 n cs with
   | (cs', m) => (some (.cells e fz cs'), m)
 | some (.arr e sig _) => (some (.arr e sig (.va n)), n + 1)
 | some (.marr ks vs _) => (some (.marr ks vs (.va n)), n + 1)
 | x => (x, n)
def cs1 (t : Nat) : List Nat → Bool
 | [] => false
 | a :: r => bif Nat.beq a t then true else cs1 t r
def cf0 (t : Nat) : List (Nat × AV) → Option AV
 | [] => none
 | a :: r => bif Nat.beq a.1 t then some a.2 else cf0 t r
def c09 (look : Nat → Option AV) : Nat → Nat → Nat → List (Nat × AV) × Nat
 | 0, _, n => ([], n)
 | m + 1, t, n => match look t with
   | some v => match cr9 n v with
     | (v', n') => match c09 look m (t + 1) n' with
       | (r, n'') => ((t, v') :: r, n'')
   | none => c09 look m (t + 1) n
def cs3 (b : Nat) : List (Nat × List Nat) → Option (List Nat)
 | [] => none
 | x :: r => bif Nat.beq x.1 b then (match x.2, cs3 b r with
   | [], _ => some []
   | l, some [] => some []
   | l, some l' => some (l ++ l')
   | l, none => some l) else cs3 b r
def c10 (l : List Nat) : Nat → Nat → List AV → List AV × Nat
 | _, n, [] => ([], n)
 | i, n, a :: r => bif cs1 i l then (match cr9 n a with
     | (a', m) => match c10 l (i + 1) m r with
       | (r', m') => (a' :: r', m'))
   else (match c10 l (i + 1) n r with
    | (r', m') => (a :: r', m'))
def cs4 (l : List Nat) (n : Nat) (x : Option Blk) : Option Blk × Nat := match l, x with
 | _ :: _, some (.cells e fz cs) => (match c10 l 0 n cs with
   | (cs', m) => (some (.cells e fz cs'), m))
 | _, x => cs0 n x
def c11 (bs : List (Nat × List Nat)) (h : Heap) : Nat → Nat → Nat → List (Nat × Option Blk) × Nat
 | 0, _, n => ([], n)
 | m + 1, b, n => match cs3 b bs with
   | some l => (match cs4 l n (h.get b) with
     | (x, n') => match c11 bs h m (b + 1) n' with
       | (r, n'') => ((b, x) :: r, n''))
   | none => c11 bs h m (b + 1) n
def cf1 (look : Nat → Option AV) (bs : List (Nat × List Nat)) (nt : Nat) (h : Heap) (v0 : Nat) : StP := match c09 look nt 0 v0 with
 | (sl, n) => match c11 bs h h.next 0 n with
   | (bl, _) => ⟨sl, bl, h.next⟩
def c12 (a : Fr) (n : Nat) : List (Nat × Option Nat × Nat × List CT) → List OwnP
 | [] => []
 | (t, none, e, sig) :: r => ⟨t, n, e, sig, none⟩ :: c12 a (n + 1) r
 | (t, some i, e, sig) :: r => (match a.slot t with
   | .ptr b o => ⟨t, n, e, sig, some (b, o + i)⟩
   | _ => ⟨t, n, e, sig, none⟩) :: c12 a (n + 1) r
mutual
def aT7 : AV → List Nat
 | .ptr b _ => [b]
 | .osl b _ _ _ => [b]
 | .ous b _ _ => [b]
 | .map b => [b]
 | .agg l => aK1 l
 | .func _ _ l => aK1 l
 | _ => []
def aK1 : List AV → List Nat
 | [] => []
 | a :: r => aT7 a ++ aK1 r
end
def cf2 (a : Fr) (l : List Nat) (t : Nat) : Option AV := bif cs1 t l then some (a.slot t) else none
def cs5 (a : Fr) (l : List Nat) (x : List (Nat × AV)) (t : Nat) : Option AV := match cf0 t x with
 | some v => some v
 | none => cf2 a l t
def cs6 (h : Heap) (x : Option Blk) : List SX := match x with
 | some (.cells _ _ cs) => (aK1 cs).flatMap fun b => ce9 (h.get b)
 | _ => []
def b36 (h : Heap) (b : Nat) : List Nat := match h.get b with
 | some (.cells _ _ cs) => aK1 cs
 | _ => []
def cw5 (h : Heap) (b : Nat) : List SX := match h.get b with
 | some (.arr _ _ l) => [l]
 | _ => []
def fvS (a : Fr) (h : Heap) (t : Nat) : List SX :=
 bif Nat.ble 2000 t then ((aT7 (a.slot (t - 2000))).flatMap (b36 h)).flatMap fun b => (b36 h b).flatMap (cw5 h)
 else bif Nat.ble 1000 t then (aT7 (a.slot (t - 1000))).flatMap fun b => (b36 h b).flatMap (cw5 h)
 else c07 (a.slot t) ++ ((aT7 (a.slot t)).flatMap fun b => ce9 (h.get b) ++ cs6 h (h.get b))
def fvG (a : Fr) (h : Heap) : List Nat → List SX
 | [] => []
 | t :: r => fvS a h t ++ fvG a h r
def cs7 (l : List Nat) : List (Nat × List Nat) := l.map fun b => (b, [])
def cz3 (a : Fr) (h : Heap) (t : Nat) : List (Nat × List Nat) := bif Nat.ble 10000 t then (aT7 (a.slot (t % 100))).map fun b => (b, [(t - 10000) / 100])
 else bif Nat.ble 1000 t then cs7 ((aT7 (a.slot (t - 1000))).flatMap (b36 h)) else cs7 (aT7 (a.slot t))
def exB : Ex → Ex → Bool
 | .norm, .norm => true
 | .exit i, .exit j => Nat.beq i j
 | .ret, .ret => true
 | _, _ => false
def cz4 (owns : List OwnP) (b : Nat) : Bool := owns.any fun o => Nat.beq o.blk b
def cf3 (g : Bool) (owns : List OwnP) (s : StP) : StP := bif g then ⟨s.slots, s.blks.map fun x => bif cz4 owns x.1 then (x.1, none) else x, s.next⟩ else s
def cs8 (g : LGen) (owns : List OwnP) (p : Fr × Heap) (bs : List (Nat × List Nat)) : LSpec :=
 ⟨g.id, owns, g.v0, fvG p.1 p.2 g.fvs, g.dead, cf1 (cf2 p.1 g.abs) bs p.1.nt p.2 g.v0, g.exits.map fun x => (x.1, cf3 (g.gone.any (exB x.1)) owns (cf1 (cs5 p.1 g.abs x.2) bs p.1.nt p.2 g.v0))⟩
def aA1 (a : Fr) : List (Nat × List CT × List CT) → Heap → Heap
 | [], h => h
 | (t, ks, vs) :: r, h => (match a.slot t with
   | .map b => (match h.get b with
     | some (.map [] _) => aA1 a r (h.put b (some (.marr ks vs (.op .row []))))
     | _ => aA1 a r h)
   | _ => aA1 a r h)
def O2 (g : LGen) (a : Fr) (h : Heap) : LSpec :=
 match c12 a h.next g.own with
 | owns => match ap5 ⟨g.id, owns, g.v0, [], g.dead, ⟨[], [], 0⟩, []⟩ (s9 owns a h).2 (h.upto (Nat.add h.next owns.length)) with
   | p => cs8 g owns (p.1, aA1 p.1 g.maps p.2) (cs7 (owns.map (·.blk)) ++ (g.mem.map (cz3 p.1 p.2)).flatten)
mutual
def J1 : AV → List AV
 | .agg cs => cs
 | .tup vs => X3 vs
 | v => [v]
def X3 : List AV → List AV
 | [] => []
 | a :: r => J1 a ++ X3 r
end
inductive BSrc where
 | whole (b : Nat)
 | view (v : AV)
 deriving Inhabited
structure FC where
 args : List AV
 blks : List Blk
 mt : Nat
 need : SX
 out : AV
 post : List (Option Blk)
 outs : List SX
mutual
def N1 (es : List SX) : SX → SX
 | .va n => es.getD n (.va n)
 | .op p l => .op p (aj0 es l)
 | .app f l => .app f (aj0 es l)
 | x => x
def aj0 (es : List SX) : List SX → List SX
 | [] => []
 | a :: r => N1 es a :: aj0 es r
end
def bJ3 (sz : Nat) (sig : List CT) (n : Nat) (cs : List AV) : Option (SX × SX) := match X8 sig sz n cs with
 | some rs => some (.cb true, .op .row rs)
 | none => none
def bt1 (sz elem : Nat) (sig : List CT) (x : AV) (h : Heap) : Option (SX × SX) := match x with
 | .nils => some (.cb true, .op .row [])
 | .ous b len s => match h.get b with
   | some (.arr e sg l) => bif Nat.beq s sz && Nat.beq e elem && B0 sg sig then (bif SX.beq len (.op .llen [l]) then some (.cb true, l) else some (.op .and [.op (.cmp .leq) [.ci 0, len], .op (.cmp .leq) [len, .op .llen [l]]], .op .lsub [l, .ci 0, len])) else none
   | _ => none
 | .osl b off len s => match h.get b with
   | some (.arr e sg l) => bif Nat.beq s sz && Nat.beq e elem && B0 sg sig then (bif SX.beq off (.ci 0) && SX.beq len (.op .llen [l]) then some (.cb true, l) else some (.op .and [.op (.cmp .leq) [.ci 0, off], .op .and [.op (.cmp .leq) [.ci 0, len], .op (.cmp .leq) [.op .iadd [off, len], .op .llen [l]]]], .op .lsub [l, off, .op .iadd [off, len]])) else none
   | _ => none
 | .sl b o n c => match h.get b with
   | some (.cells e fz cs) => bif Nat.beq e elem && Nat.ble n c && Nat.ble fz o && Nat.ble (o + n * sz) cs.length && Nat.blt 0 n then bJ3 sz sig n ((cs.drop o).take (n * sz)) else none
   | _ => none
 | .us b o n s => match h.get b with
   | some (.cells e fz cs) => bif Nat.blt 0 sz && Nat.beq s sz && Nat.beq e elem && Nat.ble fz o && Nat.ble (o + n * sz) cs.length then bJ3 sz sig n ((cs.drop o).take (n * sz)) else none
   | _ => none
 | _ => none
def cn5 (elem : Nat) (x : Option Blk) : Nat := match x with
 | some (.arr e _ _) => e
 | some (.cells e _ _) => e
 | _ => elem
def cs9 (x : AV) (h : Heap) (elem : Nat) : Nat := match x with
 | .ous b _ _ => cn5 elem (h.get b)
 | .osl b _ _ _ => cn5 elem (h.get b)
 | .sl b _ _ _ => cn5 elem (h.get b)
 | .us b _ _ _ => cn5 elem (h.get b)
 | _ => elem
def bQ8 (x : AV) (h : Heap) (elem : Nat) : Nat := bif Nat.beq elem Z7 then cs9 x h elem else elem
def bc7 (sz elem : Nat) (sig : List CT) (x : AV) (h : Heap) : Option (SX × SX) := bt1 sz (bQ8 x h elem) sig x h
structure Bnd where
 src : List (Nat × BSrc)
 sx : List (Nat × SX)
def ct0 {α : Type} (i : Nat) : List (Nat × α) → Bool
 | [] => false
 | a :: r => bif Nat.beq a.1 i then true else ct0 i r
def Bnd.addS (B : Bnd) (i : Nat) (s : BSrc) : Bnd := bif ct0 i B.src then B else ⟨(i, s) :: B.src, B.sx⟩
def cn6 {α : Type} (i : Nat) : List (Nat × α) → Option α
 | [] => none
 | a :: r => bif Nat.beq a.1 i then some a.2 else cn6 i r
def Bnd.addG (B : Bnd) (j : Nat) (x : SX) : Bnd := match cn6 j B.sx with
 | none => (match x with
   | .op .lget [.app f l, .ci (.ofNat 0), _] => ⟨B.src, (j, .app f l) :: B.sx⟩
   | .op .lget [.va n, .ci (.ofNat 0), _] => ⟨B.src, (j, .va n) :: B.sx⟩
   | x => ⟨B.src, (j, .op .row [.op .row [x]]) :: B.sx⟩)
 | some (.op .row [.op .row l]) => ⟨B.src, (j, .op .row [.op .row (l ++ [x])]) :: B.sx⟩
 | some _ => B
def Bnd.addX (B : Bnd) (p x : SX) : Bnd := match p with
 | .va j => bif ct0 j B.sx then B else ⟨B.src, (j, x) :: B.sx⟩
 | .op .lget [.va j, _, _] => B.addG j x
 | _ => B
def Bnd.addO (B : Bnd) (p : SX) (x : Option SX) : Bnd := match x with
 | some x => B.addX p x
 | none => B
def aj1 (p q : SX) : Bool := match p, q with
 | .ci 0, .op .llen _ => true
 | _, _ => false
mutual
def cf4 (B : Bnd) : AV → AV → Bnd
 | .oint _ p, x => B.addO p ((ap3 x).map (·.2))
 | .ostr p, x => B.addO p (aN7 x)
 | .obool p, x => B.addO p (aO7 x)
 | .agg ps, .agg xs => aj2 B ps xs
 | .iface _ p, .iface _ x => cf4 B p x
 | .func _ a b, .func _ c d => aj2 (aj2 B a c) b d
 | .ptr i _, .ptr b _ => B.addS i (.whole b)
 | .sl i _ _ _, .sl b _ _ _ => B.addS i (.whole b)
 | .osl i p q _, x => bif aj1 p q then B.addS i (.view x) else (match x with
   | .osl b p' q' _ => ((B.addS i (.whole b)).addX p p').addX q q'
   | _ => B)
 | .ous i q _, .ous b q' _ => (B.addS i (.whole b)).addX q q'
 | _, _ => B
def aj2 (B : Bnd) : List AV → List AV → Bnd
 | [], _ => B
 | _ :: _, [] => B
 | p :: ps, x :: xs => aj2 (cf4 B p x) ps xs
end
def ct1 (h : Heap) (B : Bnd) (p : Blk) (s : Option BSrc) : Bnd := match s with
 | some (.whole b) => (match p, h.get b with
   | .cells _ _ ps, some (.cells _ _ xs) => aj2 B ps xs
   | .arr _ _ q, some (.arr _ _ l) => B.addX q l
   | _, _ => B)
 | some (.view v) => (match p with
   | .arr e sig q => (match bc7 sig.length e sig v h with
     | some (_, l) => B.addX q l
     | none => B)
   | _ => B)
 | none => B
def b37 (h : Heap) (B : Bnd) : List Blk → Nat → Bnd
 | [], _ => B
 | p :: r, i => b37 h (ct1 h B p (cn6 i B.src)) r (i + 1)
def bc8 {α : Type} (l : List (Nat × α)) : Nat → Nat → Option (List α)
 | 0, _ => some []
 | n + 1, i => match cn6 i l, bc8 l n (i + 1) with
   | some x, some r => some (x :: r)
   | _, _ => none
def a86 : AV → Bool
 | .bool _ | .int _ _ | .str _ | .nilp | .glob _ | .nils | .nilm | .nilf | .nili => true
 | _ => false
def a63 (s : Option BSrc) (b : Nat) : Bool := match s with
 | some (.whole c) => Nat.beq c b
 | _ => false
def aA2 (s : Option BSrc) (x : AV) : Bool := match s with
 | some (.view v) => AV.beq v x
 | _ => false
def ct2 (e : SX) : SX := match e with
 | .op .lget [.op .row [.op .row l], .ci (.ofNat 0), .ci (.ofNat k)] => (match l[k]? with
   | some x => x
   | none => e)
 | e => e
def cf5 (es : List SX) (p x : SX) : Bool := SX.beq (ct2 (N1 es p)) x
def ckX (es : List SX) (p : SX) (x : Option SX) : Bool := match x with
 | some x => cf5 es p x
 | none => false
def ckI (es : List SX) (k : IntKind) (p : SX) (x : Option (IntKind × SX)) : Bool := match x with
 | some (k', x) => decide (k = k') && cf5 es p x
 | none => false
def bt2 (blks : List Blk) (i s : Nat) (q : SX) : Bool := match blks[i]? with
 | some (.arr _ sig l) => Nat.beq sig.length s && SX.beq q (.op .llen [l])
 | _ => false
def c13 (src : List BSrc) (es : List SX) (i : Nat) (p q : SX) (s : Nat) (x : AV) : Bool := match x with
 | .osl b p' q' s' => Nat.beq s s' && a63 src[i]? b && cf5 es p p' && cf5 es q q'
 | _ => false
def c14 (src : List BSrc) (es : List SX) (i : Nat) (q : SX) (s : Nat) (x : AV) : Bool := match x with
 | .ous b q' s' => Nat.beq s s' && a63 src[i]? b && SX.beq (N1 es q) q'
 | _ => false
def c15 (src : List BSrc) (i o : Nat) (x : AV) : Bool := match x with
 | .ptr b o' => Nat.beq o o' && a63 src[i]? b
 | _ => false
def ct3 (src : List BSrc) (i o n c : Nat) (x : AV) : Bool := match x with
 | .sl b o' n' c' => Nat.beq o o' && Nat.beq n n' && Nat.beq c c' && a63 src[i]? b
 | _ => false
mutual
def ckA (src : List BSrc) (es : List SX) (blks : List Blk) : AV → AV → Bool
 | .oint k p, x => ckI es k p (ap3 x)
 | .ostr p, x => ckX es p (aN7 x)
 | .obool p, x => ckX es p (aO7 x)
 | .agg ps, x => (match x with
   | .agg xs => bB7 src es blks ps xs
   | _ => false)
 | .iface t p, x => (match x with
   | .iface u y => Nat.beq t u && ckA src es blks p y
   | _ => false)
 | .func f a b, x => (match x with
   | .func g c d => decide (f = g) && bB7 src es blks a c && bB7 src es blks b d
   | _ => false)
 | .ptr i o, x => c15 src i o x
 | .sl i o n c, x => ct3 src i o n c x
 | .osl i p q s, x => bif aj1 p q then bt2 blks i s q && aA2 src[i]? x else c13 src es i p q s x
 | .ous i q s, x => c14 src es i q s x
 | p, x => a86 p && AV.beq p x
def bB7 (src : List BSrc) (es : List SX) (blks : List Blk) : List AV → List AV → Bool
 | [], xs => (match xs with
   | [] => true
   | _ => false)
 | p :: ps, xs => (match xs with
   | x :: xs => ckA src es blks p x && bB7 src es blks ps xs
   | _ => false)
end
def ckB (src : List BSrc) (es : List SX) (blks : List Blk) (h : Heap) (p : Blk) (s : BSrc) : Option SX := match s with
 | .whole b => (match p, h.get b with
   | .cells e fz ps, some (.cells e' fz' xs) => bif Nat.beq e e' && Nat.beq fz fz' && ps.all AV.oneA && bB7 src es blks ps xs then some (.cb true) else none
   | .arr e sig q, some (.arr e' sig' l) => bif Nat.beq e e' && B0 sig sig' && SX.beq (N1 es q) l then some (.cb true) else none
   | _, _ => none)
 | .view v => (match p with
   | .arr e sig q => (match bc7 sig.length e sig v h with
     | some (nd, l) => bif SX.beq (N1 es q) l then some nd else none
     | none => none)
   | _ => none)
def cf6 (src : List BSrc) (es : List SX) (blks : List Blk) (h : Heap) : List Blk → List BSrc → Option SX
 | [], [] => some (.cb true)
 | p :: ps, s :: ss => match ckB src es blks h p s, cf6 src es blks h ps ss with
   | some a, some b => some (ao8 a b)
   | _, _ => none
 | _, _ => none
def F9 : BSrc → Option Nat
 | .whole b => some b
 | .view (.ous b _ _) => some b
 | .view (.osl b _ _ _) => some b
 | .view (.sl b _ _ _) => some b
 | .view (.us b _ _ _) => some b
 | .view _ => none
def neB (a b : Option Nat) : Bool := match a, b with
 | some x, some y => !(Nat.beq x y)
 | _, _ => true
def cf7 (p : Option Blk) : Bool := match p with
 | some (.arr _ _ _) => true
 | _ => false
def ct4 (h : Heap) (b : Option Nat) : Bool := match b with
 | some b => cf7 (h.get b)
 | none => false
def geB (n : Nat) (b : Option Nat) : Bool := match b with
 | some b => Nat.ble n b
 | none => true
def cf8 (blks : List Blk) (mt : Nat) (h : Heap) (i j : Nat) (a b : Option Nat) : Bool :=
 (Nat.blt i mt && Nat.blt j mt && cf7 blks[i]? && cf7 blks[j]?) || (neB a b && (geB h.wm a || geB h.wm b || !(ct4 h a) || !(ct4 h b)))
def cn7 (blks : List Blk) (mt : Nat) (h : Heap) (i : Nat) (s : BSrc) : List BSrc → Nat → Bool
 | [], _ => true
 | t :: r, j => cf8 blks mt h i j (F9 s) (F9 t) && cn7 blks mt h i s r (j + 1)
def seps (blks : List Blk) (mt : Nat) (h : Heap) : List BSrc → Nat → Bool
 | [], _ => true
 | s :: r, i => cn7 blks mt h i s r (i + 1) && seps blks mt h r (i + 1)
def at9 (b : Nat) : List AV → Bool
 | [] => false
 | x :: r => (match x with
   | .ptr c _ => Nat.beq c b
   | _ => false) || at9 b r
def c16 (h : Heap) (b c : Nat) : Bool := match h.get c with
 | some (.cells _ _ cs) => at9 b cs
 | _ => false
def bJ4 (args : List AV) (h : Heap) (b : Nat) : List BSrc → Bool
 | [] => false
 | s :: r => (match s with
   | .whole c => at9 c args && c16 h b c
   | .view _ => false) || bJ4 args h b r
def bt3 (x : Option (Option Blk)) : Bool := match x with
 | some none => true
 | _ => false
def bt4 (mt : Nat) (args : List AV) (h : Heap) (all : List BSrc) (post : List (Option Blk)) : List BSrc → Nat → Bool
 | [], _ => true
 | s :: r, i => (Nat.blt i mt || (match s with
   | .whole b => Nat.ble h.wm b && Nat.blt b h.next && (bt3 post[i - mt]? || at9 b args || bJ4 args h b all || cf7 (h.get b))
   | .view _ => false)) && bt4 mt args h all post r (i + 1)
def be8 (e : SX) : Bool := (aP1 1000 e).isSome || s8 0 e
def isW (src : List BSrc) (i : Nat) : Bool := match src[i]? with
 | some (.whole _) => true
 | _ => false
def clA (src : List BSrc) (mt : Nat) (post : List (Option Blk)) (p : AV) : Bool := match p with
 | .oint _ e => be8 e
 | .ostr e => be8 e
 | .obool e => be8 e
 | .osl i x y _ => isW src i && be8 x && be8 y
 | .ous i x s => bif Nat.ble src.length i then (match x, post[i - mt]? with
     | .op .llen [q], some (some (.arr _ sig q')) => SX.beq q q' && Nat.beq sig.length s
     | _, _ => false) else isW src i && (aP1 1000 x).isSome
 | .ptr i _ => isW src i
 | p => a86 p
def au0 (n : Nat) (p : AV) : Bool := match p with
 | .ous i _ _ => Nat.blt i n
 | _ => true
def clB (src : List BSrc) (mt : Nat) (post : List (Option Blk)) (x : Option Blk) : Bool := match x with
 | none => true
 | some (.cells _ _ ps) => ps.all fun p => clA src mt post p && au0 src.length p && p.oneA
 | some (.arr _ _ q) => be8 q
 | _ => false
def bc9 (x : Option Blk) : Bool := match x with
 | some (.arr _ _ q) => be8 q
 | _ => false
def aj3 (src : List BSrc) (mt : Nat) (post : List (Option Blk)) : List (Option Blk) → Nat → Bool
 | [], i => Nat.ble src.length i
 | x :: r, i => bif Nat.blt i src.length then clB src mt post x && aj3 src mt post r (i + 1) else bc9 x && aj3 src mt post r (i + 1)
structure Binding where
 src : List BSrc
 es : List SX
 nd : SX
def bJ5 (c : FC) (nv : Nat) : Bool := be7 nv c.blks.length c.args && c.blks.all (fun x => okB nv c.blks.length (some x)) && s8 nv c.need && J9 nv c.outs && Nat.ble c.mt c.blks.length && Nat.blt c.blks.length 60000 && c.blks.all (fun x => match x with
  | .cells _ _ _ => true
  | .arr _ _ _ => true
  | _ => false)
def c17 (c : FC) (args : List AV) (h : Heap) : Bnd :=
 b37 h (aj2 ⟨(b37 h ⟨(b37 h (aj2 ⟨[], []⟩ c.args args) c.blks 0).src, []⟩ c.blks 0).src, []⟩ c.args args) c.blks 0
def aT8 (c : FC) (nv : Nat) (args : List AV) (h : Heap) : Option Binding :=
 match c17 c args h with
 | B => match bc8 B.src c.blks.length 0, bc8 B.sx nv 0 with
   | some src, some es => bif bB7 src es c.blks c.args args && seps c.blks c.mt h src 0 && bt4 c.mt args h src c.post src 0 && aj3 src c.mt c.post c.post c.mt && (J1 c.out).all (clA src c.mt c.post) then (match cf6 src es c.blks h c.blks src with
     | some nd => some ⟨src, es, nd⟩
     | none => none) else none
   | _, _ => none
def aA3 (es outs : List SX) (k : Nat) : SX := N1 es (outs.getD k (.cb false))
def Z1 (src : List BSrc) (n : Nat) (i : Nat) : Nat := match src[i]? with
 | some (.whole b) => b
 | some (.view _) => n
 | none => n + (i - src.length)
mutual
def ao9 (ρ : Nat → Nat) : AV → AV
 | .ptr b o => .ptr (ρ b) o
 | .sl b o n c => .sl (ρ b) o n c
 | .us b o n s => .us (ρ b) o n s
 | .es b o s => .es (ρ b) o s
 | .map b => .map (ρ b)
 | .func fn a c => .func fn (a97 ρ a) (a97 ρ c)
 | .yield b => .yield (ρ b)
 | .iface t v => .iface t (ao9 ρ v)
 | .agg l => .agg (a97 ρ l)
 | .tup l => .tup (a97 ρ l)
 | .osl b x y s => .osl (ρ b) x y s
 | .optr b x j s => .optr (ρ b) x j s
 | .ous b x s => .ous (ρ b) x s
 | x => x
def a97 (ρ : Nat → Nat) : List AV → List AV
 | [] => []
 | a :: r => ao9 ρ a :: a97 ρ r
end
def a98 (ρ : Nat → Nat) : Option Blk → Option Blk
 | some (.cells e fz cs) => some (.cells e fz (a97 ρ cs))
 | some (.arr e sig l) => some (.arr e sig l)
 | _ => none
mutual
def O1 (q : Nat → SX) : AV → AV
 | .oint k e => be6 k (v7 1000 q e)
 | .ostr e => .ostr (v7 1000 q e)
 | .obool e => .obool (v7 1000 q e)
 | .agg l => .agg (X4 q l)
 | .tup l => .tup (X4 q l)
 | .osl b x y s => .osl b (v7 1000 q x) (v7 1000 q y) s
 | .ous b x s => .ous b (bJ6 q x) s
 | x => x
def X4 (q : Nat → SX) : List AV → List AV
 | [] => []
 | a :: r => O1 q a :: X4 q r
def bJ6 (q : Nat → SX) : SX → SX
 | .op .llen [x] => .op .llen [v7 1000 q x]
 | x => v7 1000 q x
end
def Q8 (q : Nat → SX) : Option Blk → Option Blk
 | some (.cells e fz cs) => some (.cells e fz (X4 q cs))
 | some (.arr e sig l) => some (.arr e sig (v7 1000 q l))
 | x => x
def D1 (ρ : Nat → Nat) (q : Nat → SX) (m : Nat) : List (Option Blk) → Nat → Heap → Heap
 | [], _, h => h
 | x :: r, i, h => D1 ρ q m r (i + 1) (bif Nat.blt i m then h.put (ρ i) (a98 ρ (Q8 q x)) else (match a98 ρ (Q8 q x) with
   | some y => h.new y
   | none => h))
def bJ7 (e : SX) (v : AV) (h : Heap) : Res := match e with
 | .cb true => .val v h
 | e => .need e v h
def aT9 (c : FC) (b : Binding) (h : Heap) : Res :=
 bJ7 (ao8 b.nd (N1 b.es c.need)) (ao9 (Z1 b.src h.next) (O1 (aA3 b.es c.outs) c.out)) (D1 (Z1 b.src h.next) (aA3 b.es c.outs) c.blks.length c.post c.mt h)
def bt5 (x : AV) (h : Heap) : Option (SX × AV × Heap) := match x with
 | .ous b len s => (match h.get b with
   | some (.arr e sig l) => bif Nat.ble h.wm b && !(SX.beq len (.op .llen [l])) && Nat.beq s sig.length then
    some (.op .and [.op (.cmp .leq) [.ci 0, len], .op (.cmp .leq) [len, .op .llen [l]]], .ous b (.op .llen [.op .lsub [l, .ci 0, len]]) s, h.put b (some (.arr e sig (.op .lsub [l, .ci 0, len])))) else none
   | _ => none)
 | _ => none
def a23 : List AV → Heap → SX × List AV × Heap
 | [], h => (.cb true, [], h)
 | x :: r, h => match bt5 x h with
   | some (e, x', h') => (match a23 r h' with
     | (e', r', h2) => (ao8 e e', x' :: r', h2))
   | none => (match a23 r h with
     | (e', r', h2) => (e', x :: r', h2))
def au1 (nd : SX) (r : Res) : Res := match r with
 | .val v h => bJ7 nd v h
 | .need e v h => .need (ao8 nd e) v h
 | _ => .bad
def aj4 (c : FC) (nv : Nat) (args : List AV) (h : Heap) : Res := match aT8 c nv args h with
 | some b => aT9 c b h
 | none => .bad
def N2 (c : FC) (nv : Nat) (args : List AV) (h : Heap) : Res := match aT8 c nv args h with
 | some b => aT9 c b h
 | none => (match a23 args h with
   | (nd, args', h') => au1 nd (aj4 c nv args' h'))
mutual
def B2 : AV → AV → Bool
 | .tup a, x => (match x with
   | .tup b => I3 a b
   | _ => false)
 | .agg a, x => (match x with
   | .agg b => Nat.beq a.length b.length
   | _ => false)
 | _, x => (match x with
   | .tup _ => false
   | .agg _ => false
   | _ => true)
def I3 : List AV → List AV → Bool
 | [], x => (match x with
   | [] => true
   | _ => false)
 | a :: r, x => (match x with
   | b :: q => B2 a b && I3 r q
   | [] => false)
end
def ct5 (post : List (Option Blk)) (k : Nat) : Option (Nat × List CT) := match post[k]? with
 | some (some (.arr e sig _)) => some (e, sig)
 | _ => none
def aK2 (post : List (Option Blk)) (mt m base : Nat) : List AV → Nat → List OwnP
 | [], _ => []
 | .ous i _ _ :: r, t => bif Nat.ble m i then (match ct5 post (i - mt) with
   | some (e, sig) => ⟨t, base + (i - m), e, sig, none⟩ :: aK2 post mt m base r (t + 1)
   | none => aK2 post mt m base r (t + 1)) else aK2 post mt m base r (t + 1)
 | _ :: r, t => aK2 post mt m base r (t + 1)
def cf9 (h : Heap) (b s : Nat) (x : AV) : Bool := match x, h.get b with
 | .ous c (.op .llen [l]) s', some (.arr _ _ l') => Nat.beq b c && Nat.beq s s' && SX.beq l l'
 | _, _ => false
def c18 (m base n : Nat) (h : Heap) (p x : AV) : Option (List SX) := match p with
 | .ous i q s => bif Nat.ble m i then (bif cf9 h (base + (i - m)) s x then some [] else none) else n8 1000 base n (.ous i q s) x
 | p => n8 1000 base n p x
def bJ8 (m base : Nat) (h : Heap) (a : Fr) : List AV → Nat → Nat → Option (List SX)
 | [], _, _ => some []
 | p :: ps, t, n => match c18 m base n h p (a.slot t) with
   | some e => match bJ8 m base h a ps (t + 1) (n + e.length) with
     | some es => some (e ++ es)
     | none => none
   | none => none
def bJ9 (m base : Nat) (h : Heap) : List (Option Blk) → Nat → Nat → Option (List SX)
 | [], _, _ => some []
 | p :: ps, i, n => match aw5 1000 base n p (h.get (bif Nat.blt i m then i else base + (i - m))) with
   | some e => match bJ9 m base h ps (i + 1) (n + e.length) with
     | some es => some (e ++ es)
     | none => none
   | none => none
def cn8 (pc : PC) : List SX → List SX
 | [] => []
 | e :: r => cm8 pc 16 e :: cn8 pc r
def cw6 (c : FC) (m base : Nat) (p : Fr × Heap) (pc : PC) : VT := match bJ8 m base p.2 p.1 (J1 c.out) 0 0 with
 | some es => match bJ9 m base p.2 c.post c.mt es.length with
   | some fs => .ret 0 (cn8 pc (es ++ fs))
   | none => .bad
 | none => .bad
def cw7 (c : FC) (m base : Nat) (owns : List OwnP) (xs : List AV) (h : Heap) (pc : PC) : VT :=
 match aP4 owns ⟨K0 xs 0 TF.empty, xs.length, [], 0, [], none⟩ (h.upto (Nat.add base owns.length)) with
 | some p => cw6 c m base p pc
 | none => .bad
def bd0 (h : Heap) (x : AV) : SX × AV := match x with
 | .ous r len s => match h.get r with
   | some (.arr _ _ l) => bif SX.beq len (.op .llen [l]) then (.cb true, x) else (.op (.cmp .eql) [len, .op .llen [l]], .ous r (.op .llen [l]) s)
   | _ => (.cb true, x)
 | x => (.cb true, x)
def au2 (h : Heap) : List AV → SX × List AV
 | [] => (.cb true, [])
 | a :: r => match bd0 h a, au2 h r with
   | (e, x), (e', xs) => (ao8 e e', x :: xs)
def cw8 (c : FC) (h : Heap) (p : SX × List AV) : RPT := aw7.need p.1 (cw7 c c.blks.length h.next (aK2 c.post c.mt c.blks.length h.next (J1 c.out) 0) p.2 h)
def kFC (c : FC) (v : AV) (h : Heap) : RPT :=
 bif B2 c.out v && Nat.ble (J1 v).length 256 then cw8 c h (au2 h (J1 v)) else fun _ => .bad
def Q2 : List Blk → Heap → Heap
 | [], h => h
 | x :: r, h => Q2 r (h.new x)
def cg0 (wm : Nat) (t : TH) (next _ : Nat) : Heap := ⟨t, next, wm⟩
def Heap.setwm (h : Heap) (wm : Nat) : Heap := Heap.rec (cg0 wm) h
def FC.heap (c : FC) : Heap := (Q2 c.blks Heap.empty).setwm c.mt
def FC.run (E : Env) (fuel : Nat) (f : FuncId) (c : FC) (args : List AV) : VT := ev E fuel RPT aw7 (.body f args c.heap (kFC c)) []
end
end Go.Ev
