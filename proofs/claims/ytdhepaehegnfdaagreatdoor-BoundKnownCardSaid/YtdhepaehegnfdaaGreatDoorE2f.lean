import Derived.Test.YtdhepaehegnfdaaGreatDoorE2
set_option linter.unusedVariables false
namespace Go.Ev
open Go
noncomputable section
structure LGen where
 id : Nat
 v0 : Nat
 dead : List Nat
 own : List (Nat × Option Nat × Nat × List CT)
 abs : List Nat
 mem : List Nat
 fvs : List Nat
 exits : List (Ex × List (Nat × AV))
 maps : List (Nat × List CT × List CT) := []
 gone : List Ex := []
mutual
def cc9 : AV → List SX
 | .oint _ e => [e]
 | .ostr e => [e]
 | .obool e => [e]
 | .osl _ x y _ => [x, y]
 | .ous _ x _ => [x]
 | .agg l => bF7 l
 | .iface _ x => cc9 x
 | _ => []
def bF7 : List AV → List SX
 | [] => []
 | a :: r => cc9 a ++ bF7 r
end
def cp8 (x : Option Blk) : List SX := match x with
 | some (.cells _ _ cs) => bF7 cs
 | some (.arr _ _ l) => [l]
 | some (.marr _ _ l) => [l]
 | _ => []
mutual
def cB3 (n : Nat) : AV → AV × Nat
 | .int k _ => (.oint k (.va n), n + 1)
 | .oint k _ => (.oint k (.va n), n + 1)
 | .str _ => (.ostr (.va n), n + 1)
 | .ostr _ => (.ostr (.va n), n + 1)
 | .bool _ => (.obool (.va n), n + 1)
 | .obool _ => (.obool (.va n), n + 1)
 | .osl b _ _ s => (.osl b (.va n) (.va (n + 1)) s, n + 2)
 | .ous b _ s => (.ous b (.va n) s, n + 1)
 | .agg l => match cd0 n l with
   | (l', m) => (.agg l', m)
 | x => (x, n)
def cd0 (n : Nat) : List AV → List AV × Nat
 | [] => ([], n)
 | a :: r => match cB3 n a with
   | (a', m) => match cd0 m r with
     | (r', m') => (a' :: r', m')
end
def cB4 (n : Nat) (x : Option Blk) : Option Blk × Nat := match x with
 | some (.cells e fz cs) => match cd0 n cs with
   | (cs', m) => (some (.cells e fz cs'), m)
 | some (.arr e sig _) => (some (.arr e sig (.va n)), n + 1)
 | some (.marr ks vs _) => (some (.marr ks vs (.va n)), n + 1)
 | x => (x, n)
def cB5 (t : Nat) : List Nat → Bool
 | [] => false
 | a :: r => bif Nat.beq a t then true else cB5 t r
def cp9 (t : Nat) : List (Nat × AV) → Option AV
 | [] => none
 | a :: r => bif Nat.beq a.1 t then some a.2 else cp9 t r
def cd1 (look : Nat → Option AV) : Nat → Nat → Nat → List (Nat × AV) × Nat
 | 0, _, n => ([], n)
 | m + 1, t, n => match look t with
   | some v => match cB3 n v with
     | (v', n') => match cd1 look m (t + 1) n' with
       | (r, n'') => ((t, v') :: r, n'')
   | none => cd1 look m (t + 1) n
def cB6 (b : Nat) : List (Nat × List Nat) → Option (List Nat)
 | [] => none
 | x :: r => bif Nat.beq x.1 b then (match x.2, cB6 b r with
   | [], _ => some []
   | l, some [] => some []
   | l, some l' => some (l ++ l')
   | l, none => some l) else cB6 b r
def cd2 (l : List Nat) : Nat → Nat → List AV → List AV × Nat
 | _, n, [] => ([], n)
 | i, n, a :: r => bif cB5 i l then (match cB3 n a with
     | (a', m) => match cd2 l (i + 1) m r with
       | (r', m') => (a' :: r', m'))
   else (match cd2 l (i + 1) n r with
    | (r', m') => (a :: r', m'))
def cB7 (l : List Nat) (n : Nat) (x : Option Blk) : Option Blk × Nat := match l, x with
 | _ :: _, some (.cells e fz cs) => (match cd2 l 0 n cs with
   | (cs', m) => (some (.cells e fz cs'), m))
 | _, x => cB4 n x
def cd3 (bs : List (Nat × List Nat)) (h : Heap) : Nat → Nat → Nat → List (Nat × Option Blk) × Nat
 | 0, _, n => ([], n)
 | m + 1, b, n => match cB6 b bs with
   | some l => (match cB7 l n (h.get b) with
     | (x, n') => match cd3 bs h m (b + 1) n' with
       | (r, n'') => ((b, x) :: r, n''))
   | none => cd3 bs h m (b + 1) n
def cq0 (look : Nat → Option AV) (bs : List (Nat × List Nat)) (nt : Nat) (h : Heap) (v0 : Nat) : StP := match cd1 look nt 0 v0 with
 | (sl, n) => match cd3 bs h h.next 0 n with
   | (bl, _) => ⟨sl, bl, h.next⟩
def cd4 (a : Fr) (n : Nat) : List (Nat × Option Nat × Nat × List CT) → List OwnP
 | [] => []
 | (t, none, e, sig) :: r => ⟨t, n, e, sig, none⟩ :: cd4 a (n + 1) r
 | (t, some i, e, sig) :: r => (match a.slot t with
   | .ptr b o => ⟨t, n, e, sig, some (b, o + i)⟩
   | _ => ⟨t, n, e, sig, none⟩) :: cd4 a (n + 1) r
mutual
def b50 : AV → List Nat
 | .ptr b _ => [b]
 | .osl b _ _ _ => [b]
 | .ous b _ _ => [b]
 | .map b => [b]
 | .agg l => aU8 l
 | .func _ _ l => aU8 l
 | _ => []
def aU8 : List AV → List Nat
 | [] => []
 | a :: r => b50 a ++ aU8 r
end
def cq1 (a : Fr) (l : List Nat) (t : Nat) : Option AV := bif cB5 t l then some (a.slot t) else none
def cB8 (a : Fr) (l : List Nat) (x : List (Nat × AV)) (t : Nat) : Option AV := match cp9 t x with
 | some v => some v
 | none => cq1 a l t
def cB9 (h : Heap) (x : Option Blk) : List SX := match x with
 | some (.cells _ _ cs) => (aU8 cs).flatMap fun b => cp8 (h.get b)
 | _ => []
def bf5 (h : Heap) (b : Nat) : List Nat := match h.get b with
 | some (.cells _ _ cs) => aU8 cs
 | _ => []
def cF7 (h : Heap) (b : Nat) : List SX := match h.get b with
 | some (.arr _ _ l) => [l]
 | _ => []
def fvS (a : Fr) (h : Heap) (t : Nat) : List SX :=
 bif Nat.ble 2000 t then ((b50 (a.slot (t - 2000))).flatMap (bf5 h)).flatMap fun b => (bf5 h b).flatMap (cF7 h)
 else bif Nat.ble 1000 t then (b50 (a.slot (t - 1000))).flatMap fun b => (bf5 h b).flatMap (cF7 h)
 else cc9 (a.slot t) ++ ((b50 (a.slot t)).flatMap fun b => cp8 (h.get b) ++ cB9 h (h.get b))
def fvG (a : Fr) (h : Heap) : List Nat → List SX
 | [] => []
 | t :: r => fvS a h t ++ fvG a h r
def cC0 (l : List Nat) : List (Nat × List Nat) := l.map fun b => (b, [])
def cI4 (a : Fr) (h : Heap) (t : Nat) : List (Nat × List Nat) := bif Nat.ble 10000 t then (b50 (a.slot (t % 100))).map fun b => (b, [(t - 10000) / 100])
 else bif Nat.ble 1000 t then cC0 ((b50 (a.slot (t - 1000))).flatMap (bf5 h)) else cC0 (b50 (a.slot t))
def exB : Ex → Ex → Bool
 | .norm, .norm => true
 | .exit i, .exit j => Nat.beq i j
 | .ret, .ret => true
 | _, _ => false
def cI5 (owns : List OwnP) (b : Nat) : Bool := owns.any fun o => Nat.beq o.blk b
def cq2 (g : Bool) (owns : List OwnP) (s : StP) : StP := bif g then ⟨s.slots, s.blks.map fun x => bif cI5 owns x.1 then (x.1, none) else x, s.next⟩ else s
def cC1 (g : LGen) (owns : List OwnP) (p : Fr × Heap) (bs : List (Nat × List Nat)) : LSpec :=
 ⟨g.id, owns, g.v0, fvG p.1 p.2 g.fvs, g.dead, cq0 (cq1 p.1 g.abs) bs p.1.nt p.2 g.v0, g.exits.map fun x => (x.1, cq2 (g.gone.any (exB x.1)) owns (cq0 (cB8 p.1 g.abs x.2) bs p.1.nt p.2 g.v0))⟩
def aJ6 (a : Fr) : List (Nat × List CT × List CT) → Heap → Heap
 | [], h => h
 | (t, ks, vs) :: r, h => (match a.slot t with
   | .map b => (match h.get b with
     | some (.map [] _) => aJ6 a r (h.put b (some (.marr ks vs (.op .row []))))
     | _ => aJ6 a r h)
   | _ => aJ6 a r h)
def cC2 (t i : Nat) (a : Fr) (h : Heap) : Bool := match a.slot t with
 | .ptr b o => (match h.get b with
   | some (.cells _ _ cs) => (match cs.getD (Nat.add o i) .any with
     | .ptr _ _ => true
     | _ => false)
   | _ => false)
 | _ => false
def aZ1 (g : LGen) (a : Fr) (h : Heap) : LSpec :=
 match cd4 a h.next g.own with
 | owns => match ay3 ⟨g.id, owns, g.v0, [], g.dead, ⟨[], [], 0⟩, []⟩ (v6 owns a h).2 (h.upto (Nat.add h.next owns.length)) with
   | p => cC1 g owns (p.1, aJ6 p.1 g.maps p.2) (cC0 (owns.map (·.blk)) ++ (g.mem.map (cI4 p.1 p.2)).flatten)
mutual
def K8 : AV → List AV
 | .agg cs => cs
 | .tup vs => a06 vs
 | v => [v]
def a06 : List AV → List AV
 | [] => []
 | a :: r => K8 a ++ a06 r
end
inductive BSrc where
 | whole (b : Nat)
 | view (v : AV)
 deriving Inhabited
structure FC where
 args : List AV
 blks : List Blk
 mt : Nat
 need : SX
 out : AV
 post : List (Option Blk)
 outs : List SX
mutual
def P4 (es : List SX) : SX → SX
 | .va n => es.getD n (.va n)
 | .op p l => .op p (aq6 es l)
 | .app f l => .app f (aq6 es l)
 | x => x
def aq6 (es : List SX) : List SX → List SX
 | [] => []
 | a :: r => P4 es a :: aq6 es r
end
def bW4 (sz : Nat) (sig : List CT) (n : Nat) (cs : List AV) : Option (SX × SX) := match a14 sig sz n cs with
 | some rs => some (.cb true, .op .row rs)
 | none => none
def bF8 (sz elem : Nat) (sig : List CT) (x : AV) (h : Heap) : Option (SX × SX) := match x with
 | .nils => some (.cb true, .op .row [])
 | .ous b len s => match h.get b with
   | some (.arr e sg l) => bif Nat.beq s sz && Nat.beq e elem && B6 sg sig then (bif SX.beq len (.op .llen [l]) then some (.cb true, l) else some (.op .and [.op (.cmp .leq) [.ci 0, len], .op (.cmp .leq) [len, .op .llen [l]]], .op .lsub [l, .ci 0, len])) else none
   | _ => none
 | .osl b off len s => match h.get b with
   | some (.arr e sg l) => bif Nat.beq s sz && Nat.beq e elem && B6 sg sig then (bif SX.beq off (.ci 0) && SX.beq len (.op .llen [l]) then some (.cb true, l) else some (.op .and [.op (.cmp .leq) [.ci 0, off], .op .and [.op (.cmp .leq) [.ci 0, len], .op (.cmp .leq) [.op .iadd [off, len], .op .llen [l]]]], .op .lsub [l, off, .op .iadd [off, len]])) else none
   | _ => none
 | .sl b o n c => match h.get b with
   | some (.cells e fz cs) => bif Nat.beq e elem && Nat.ble n c && Nat.ble fz o && Nat.ble (o + n * sz) cs.length && Nat.blt 0 n then bW4 sz sig n ((cs.drop o).take (n * sz)) else none
   | _ => none
 | .us b o n s => match h.get b with
   | some (.cells e fz cs) => bif Nat.blt 0 sz && Nat.beq s sz && Nat.beq e elem && Nat.ble fz o && Nat.ble (o + n * sz) cs.length then bW4 sz sig n ((cs.drop o).take (n * sz)) else none
   | _ => none
 | _ => none
def cx3 (elem : Nat) (x : Option Blk) : Nat := match x with
 | some (.arr e _ _) => e
 | some (.cells e _ _) => e
 | _ => elem
def cC3 (x : AV) (h : Heap) (elem : Nat) : Nat := match x with
 | .ous b _ _ => cx3 elem (h.get b)
 | .osl b _ _ _ => cx3 elem (h.get b)
 | .sl b _ _ _ => cx3 elem (h.get b)
 | .us b _ _ _ => cx3 elem (h.get b)
 | _ => elem
def c42 (x : AV) (h : Heap) (elem : Nat) : Nat := bif Nat.beq elem a40 then cC3 x h elem else elem
def bo7 (sz elem : Nat) (sig : List CT) (x : AV) (h : Heap) : Option (SX × SX) := bF8 sz (c42 x h elem) sig x h
structure Bnd where
 src : List (Nat × BSrc)
 sx : List (Nat × SX)
def cC4 {α : Type} (i : Nat) : List (Nat × α) → Bool
 | [] => false
 | a :: r => bif Nat.beq a.1 i then true else cC4 i r
def Bnd.addS (B : Bnd) (i : Nat) (s : BSrc) : Bnd := bif cC4 i B.src then B else ⟨(i, s) :: B.src, B.sx⟩
def cx4 {α : Type} (i : Nat) : List (Nat × α) → Option α
 | [] => none
 | a :: r => bif Nat.beq a.1 i then some a.2 else cx4 i r
def Bnd.addG (B : Bnd) (j : Nat) (x : SX) : Bnd := match cx4 j B.sx with
 | none => (match x with
   | .op .lget [.app f l, .ci (.ofNat 0), _] => ⟨B.src, (j, .app f l) :: B.sx⟩
   | .op .lget [.va n, .ci (.ofNat 0), _] => ⟨B.src, (j, .va n) :: B.sx⟩
   | x => ⟨B.src, (j, .op .row [.op .row [x]]) :: B.sx⟩)
 | some (.op .row [.op .row l]) => ⟨B.src, (j, .op .row [.op .row (l ++ [x])]) :: B.sx⟩
 | some _ => B
def Bnd.addX (B : Bnd) (p x : SX) : Bnd := match p with
 | .va j => bif cC4 j B.sx then B else ⟨B.src, (j, x) :: B.sx⟩
 | .op .lget [.va j, _, _] => B.addG j x
 | _ => B
def Bnd.addO (B : Bnd) (p : SX) (x : Option SX) : Bnd := match x with
 | some x => B.addX p x
 | none => B
def aq7 (p q : SX) : Bool := match p, q with
 | .ci 0, .op .llen _ => true
 | _, _ => false
mutual
def cq3 (B : Bnd) : AV → AV → Bnd
 | .oint _ p, x => B.addO p ((ay1 x).map (·.2))
 | .ostr p, x => B.addO p (aZ0 x)
 | .obool p, x => B.addO p (b00 x)
 | .agg ps, .agg xs => aq8 B ps xs
 | .iface _ p, .iface _ x => cq3 B p x
 | .func _ a b, .func _ c d => aq8 (aq8 B a c) b d
 | .ptr i _, .ptr b _ => B.addS i (.whole b)
 | .sl i _ _ _, .sl b _ _ _ => B.addS i (.whole b)
 | .osl i p q _, x => bif aq7 p q then B.addS i (.view x) else (match x with
   | .osl b p' q' _ => ((B.addS i (.whole b)).addX p p').addX q q'
   | _ => B)
 | .ous i q _, .ous b q' _ => (B.addS i (.whole b)).addX q q'
 | _, _ => B
def aq8 (B : Bnd) : List AV → List AV → Bnd
 | [], _ => B
 | _ :: _, [] => B
 | p :: ps, x :: xs => aq8 (cq3 B p x) ps xs
end
def cC5 (h : Heap) (B : Bnd) (p : Blk) (s : Option BSrc) : Bnd := match s with
 | some (.whole b) => (match p, h.get b with
   | .cells _ _ ps, some (.cells _ _ xs) => aq8 B ps xs
   | .arr _ _ q, some (.arr _ _ l) => B.addX q l
   | _, _ => B)
 | some (.view v) => (match p with
   | .arr e sig q => (match bo7 sig.length e sig v h with
     | some (_, l) => B.addX q l
     | none => B)
   | _ => B)
 | none => B
def bf6 (h : Heap) (B : Bnd) : List Blk → Nat → Bnd
 | [], _ => B
 | p :: r, i => bf6 h (cC5 h B p (cx4 i B.src)) r (i + 1)
def bo8 {α : Type} (l : List (Nat × α)) : Nat → Nat → Option (List α)
 | 0, _ => some []
 | n + 1, i => match cx4 i l, bo8 l n (i + 1) with
   | some x, some r => some (x :: r)
   | _, _ => none
def af2 : AV → Bool
 | .bool _ | .int _ _ | .str _ | .nilp | .glob _ | .nils | .nilm | .nilf | .nili => true
 | _ => false
def ac5 (s : Option BSrc) (b : Nat) : Bool := match s with
 | some (.whole c) => Nat.beq c b
 | _ => false
def aJ7 (s : Option BSrc) (x : AV) : Bool := match s with
 | some (.view v) => AV.beq v x
 | _ => false
def cC6 (e : SX) : SX := match e with
 | .op .lget [.op .row [.op .row l], .ci (.ofNat 0), .ci (.ofNat k)] => (match l[k]? with
   | some x => x
   | none => e)
 | e => e
def cq4 (es : List SX) (p x : SX) : Bool := SX.beq (cC6 (P4 es p)) x
def ckX (es : List SX) (p : SX) (x : Option SX) : Bool := match x with
 | some x => cq4 es p x
 | none => false
def ckI (es : List SX) (k : IntKind) (p : SX) (x : Option (IntKind × SX)) : Bool := match x with
 | some (k', x) => decide (k = k') && cq4 es p x
 | none => false
def bF9 (blks : List Blk) (i s : Nat) (q : SX) : Bool := match blks[i]? with
 | some (.arr _ sig l) => Nat.beq sig.length s && SX.beq q (.op .llen [l])
 | _ => false
def cd5 (src : List BSrc) (es : List SX) (i : Nat) (p q : SX) (s : Nat) (x : AV) : Bool := match x with
 | .osl b p' q' s' => Nat.beq s s' && ac5 src[i]? b && cq4 es p p' && cq4 es q q'
 | _ => false
def cd6 (src : List BSrc) (es : List SX) (i : Nat) (q : SX) (s : Nat) (x : AV) : Bool := match x with
 | .ous b q' s' => Nat.beq s s' && ac5 src[i]? b && SX.beq (P4 es q) q'
 | _ => false
def cd7 (src : List BSrc) (i o : Nat) (x : AV) : Bool := match x with
 | .ptr b o' => Nat.beq o o' && ac5 src[i]? b
 | _ => false
def cC7 (src : List BSrc) (i o n c : Nat) (x : AV) : Bool := match x with
 | .sl b o' n' c' => Nat.beq o o' && Nat.beq n n' && Nat.beq c c' && ac5 src[i]? b
 | _ => false
mutual
def ckA (src : List BSrc) (es : List SX) (blks : List Blk) : AV → AV → Bool
 | .oint k p, x => ckI es k p (ay1 x)
 | .ostr p, x => ckX es p (aZ0 x)
 | .obool p, x => ckX es p (b00 x)
 | .agg ps, x => (match x with
   | .agg xs => bO9 src es blks ps xs
   | _ => false)
 | .iface t p, x => (match x with
   | .iface u y => Nat.beq t u && ckA src es blks p y
   | _ => false)
 | .func f a b, x => (match x with
   | .func g c d => decide (f = g) && bO9 src es blks a c && bO9 src es blks b d
   | _ => false)
 | .ptr i o, x => cd7 src i o x
 | .sl i o n c, x => cC7 src i o n c x
 | .osl i p q s, x => bif aq7 p q then bF9 blks i s q && aJ7 src[i]? x else cd5 src es i p q s x
 | .ous i q s, x => cd6 src es i q s x
 | p, x => af2 p && AV.beq p x
def bO9 (src : List BSrc) (es : List SX) (blks : List Blk) : List AV → List AV → Bool
 | [], xs => (match xs with
   | [] => true
   | _ => false)
 | p :: ps, xs => (match xs with
   | x :: xs => ckA src es blks p x && bO9 src es blks ps xs
   | _ => false)
end
def ckB (src : List BSrc) (es : List SX) (blks : List Blk) (h : Heap) (p : Blk) (s : BSrc) : Option SX := match s with
 | .whole b => (match p, h.get b with
   | .cells e fz ps, some (.cells e' fz' xs) => bif Nat.beq e e' && Nat.beq fz fz' && ps.all AV.oneA && bO9 src es blks ps xs then some (.cb true) else none
   | .arr e sig q, some (.arr e' sig' l) => bif Nat.beq e e' && B6 sig sig' && SX.beq (P4 es q) l then some (.cb true) else none
   | _, _ => none)
 | .view v => (match p with
   | .arr e sig q => (match bo7 sig.length e sig v h with
     | some (nd, l) => bif SX.beq (P4 es q) l then some nd else none
     | none => none)
   | _ => none)
def cq5 (src : List BSrc) (es : List SX) (blks : List Blk) (h : Heap) : List Blk → List BSrc → Option SX
 | [], [] => some (.cb true)
 | p :: ps, s :: ss => match ckB src es blks h p s, cq5 src es blks h ps ss with
   | some a, some b => some (ax7 a b)
   | _, _ => none
 | _, _ => none
def I8 : BSrc → Option Nat
 | .whole b => some b
 | .view (.ous b _ _) => some b
 | .view (.osl b _ _ _) => some b
 | .view (.sl b _ _ _) => some b
 | .view (.us b _ _ _) => some b
 | .view _ => none
def neB (a b : Option Nat) : Bool := match a, b with
 | some x, some y => !(Nat.beq x y)
 | _, _ => true
def cq6 (p : Option Blk) : Bool := match p with
 | some (.arr _ _ _) => true
 | _ => false
def cC8 (h : Heap) (b : Option Nat) : Bool := match b with
 | some b => cq6 (h.get b)
 | none => false
def geB (n : Nat) (b : Option Nat) : Bool := match b with
 | some b => Nat.ble n b
 | none => true
def cq7 (blks : List Blk) (mt : Nat) (h : Heap) (i j : Nat) (a b : Option Nat) : Bool :=
 (Nat.blt i mt && Nat.blt j mt && cq6 blks[i]? && cq6 blks[j]?) || (neB a b && (geB h.wm a || geB h.wm b || !(cC8 h a) || !(cC8 h b)))
def cx5 (blks : List Blk) (mt : Nat) (h : Heap) (i : Nat) (s : BSrc) : List BSrc → Nat → Bool
 | [], _ => true
 | t :: r, j => cq7 blks mt h i j (I8 s) (I8 t) && cx5 blks mt h i s r (j + 1)
def seps (blks : List Blk) (mt : Nat) (h : Heap) : List BSrc → Nat → Bool
 | [], _ => true
 | s :: r, i => cx5 blks mt h i s r (i + 1) && seps blks mt h r (i + 1)
def aC9 (b : Nat) : List AV → Bool
 | [] => false
 | x :: r => (match x with
   | .ptr c _ => Nat.beq c b
   | _ => false) || aC9 b r
def cd8 (h : Heap) (b c : Nat) : Bool := match h.get c with
 | some (.cells _ _ cs) => aC9 b cs
 | _ => false
def bW5 (args : List AV) (h : Heap) (b : Nat) : List BSrc → Bool
 | [] => false
 | s :: r => (match s with
   | .whole c => aC9 c args && cd8 h b c
   | .view _ => false) || bW5 args h b r
def bG0 (x : Option (Option Blk)) : Bool := match x with
 | some none => true
 | _ => false
def bG1 (mt : Nat) (args : List AV) (h : Heap) (all : List BSrc) (post : List (Option Blk)) : List BSrc → Nat → Bool
 | [], _ => true
 | s :: r, i => (Nat.blt i mt || (match s with
   | .whole b => Nat.ble h.wm b && Nat.blt b h.next && (bG0 post[i - mt]? || aC9 b args || bW5 args h b all || cq6 (h.get b))
   | .view _ => false)) && bG1 mt args h all post r (i + 1)
def br6 (e : SX) : Bool := (b04 1000 e).isSome || u9 0 e
def isW (src : List BSrc) (i : Nat) : Bool := match src[i]? with
 | some (.whole _) => true
 | _ => false
def clA (src : List BSrc) (mt : Nat) (post : List (Option Blk)) (p : AV) : Bool := match p with
 | .oint _ e => br6 e
 | .ostr e => br6 e
 | .obool e => br6 e
 | .osl i x y _ => isW src i && br6 x && br6 y
 | .ous i x s => bif Nat.ble src.length i then (match x, post[i - mt]? with
     | .op .llen [q], some (some (.arr _ sig q')) => SX.beq q q' && Nat.beq sig.length s
     | _, _ => false) else isW src i && (b04 1000 x).isSome
 | .ptr i _ => isW src i
 | p => af2 p
def aD0 (n : Nat) (p : AV) : Bool := match p with
 | .ous i _ _ => Nat.blt i n
 | _ => true
def clB (src : List BSrc) (mt : Nat) (post : List (Option Blk)) (x : Option Blk) : Bool := match x with
 | none => true
 | some (.cells _ _ ps) => ps.all fun p => clA src mt post p && aD0 src.length p && p.oneA
 | some (.arr _ _ q) => br6 q
 | _ => false
def bo9 (x : Option Blk) : Bool := match x with
 | some (.arr _ _ q) => br6 q
 | _ => false
def aq9 (src : List BSrc) (mt : Nat) (post : List (Option Blk)) : List (Option Blk) → Nat → Bool
 | [], i => Nat.ble src.length i
 | x :: r, i => bif Nat.blt i src.length then clB src mt post x && aq9 src mt post r (i + 1) else bo9 x && aq9 src mt post r (i + 1)
structure Binding where
 src : List BSrc
 es : List SX
 nd : SX
def bG2 (c : FC) (nv : Nat) : Bool := br5 nv c.blks.length c.args && c.blks.all (fun x => okB nv c.blks.length (some x)) && u9 nv c.need && M8 nv c.outs && Nat.ble c.mt c.blks.length && Nat.blt c.blks.length 60000 && c.blks.all (fun x => match x with
  | .cells _ _ _ => true
  | .arr _ _ _ => true
  | _ => false)
def cd9 (c : FC) (args : List AV) (h : Heap) : Bnd :=
 bf6 h (aq8 ⟨(bf6 h ⟨(bf6 h (aq8 ⟨[], []⟩ c.args args) c.blks 0).src, []⟩ c.blks 0).src, []⟩ c.args args) c.blks 0
def b51 (c : FC) (nv : Nat) (args : List AV) (h : Heap) : Option Binding :=
 match cd9 c args h with
 | B => match bo8 B.src c.blks.length 0, bo8 B.sx nv 0 with
   | some src, some es => bif bO9 src es c.blks c.args args && seps c.blks c.mt h src 0 && bG1 c.mt args h src c.post src 0 && aq9 src c.mt c.post c.post c.mt && (K8 c.out).all (clA src c.mt c.post) then (match cq5 src es c.blks h c.blks src with
     | some nd => some ⟨src, es, nd⟩
     | none => none) else none
   | _, _ => none
def aJ8 (es outs : List SX) (k : Nat) : SX := P4 es (outs.getD k (.cb false))
def a29 (src : List BSrc) (n : Nat) (i : Nat) : Nat := match src[i]? with
 | some (.whole b) => b
 | some (.view _) => n
 | none => n + (i - src.length)
mutual
def ax8 (ρ : Nat → Nat) : AV → AV
 | .ptr b o => .ptr (ρ b) o
 | .sl b o n c => .sl (ρ b) o n c
 | .us b o n s => .us (ρ b) o n s
 | .es b o s => .es (ρ b) o s
 | .map b => .map (ρ b)
 | .func fn a c => .func fn (ag6 ρ a) (ag6 ρ c)
 | .yield b => .yield (ρ b)
 | .iface t v => .iface t (ax8 ρ v)
 | .agg l => .agg (ag6 ρ l)
 | .tup l => .tup (ag6 ρ l)
 | .osl b x y s => .osl (ρ b) x y s
 | .optr b x j s => .optr (ρ b) x j s
 | .ous b x s => .ous (ρ b) x s
 | x => x
def ag6 (ρ : Nat → Nat) : List AV → List AV
 | [] => []
 | a :: r => ax8 ρ a :: ag6 ρ r
end
def ag7 (ρ : Nat → Nat) : Option Blk → Option Blk
 | some (.cells e fz cs) => some (.cells e fz (ag6 ρ cs))
 | some (.arr e sig l) => some (.arr e sig l)
 | _ => none
mutual
def Q6 (q : Nat → SX) : AV → AV
 | .oint k e => br4 k (x8 1000 q e)
 | .ostr e => .ostr (x8 1000 q e)
 | .obool e => .obool (x8 1000 q e)
 | .agg l => .agg (a07 q l)
 | .tup l => .tup (a07 q l)
 | .osl b x y s => .osl b (x8 1000 q x) (x8 1000 q y) s
 | .ous b x s => .ous b (bW6 q x) s
 | x => x
def a07 (q : Nat → SX) : List AV → List AV
 | [] => []
 | a :: r => Q6 q a :: a07 q r
def bW6 (q : Nat → SX) : SX → SX
 | .op .llen [x] => .op .llen [x8 1000 q x]
 | x => x8 1000 q x
end
def U3 (q : Nat → SX) : Option Blk → Option Blk
 | some (.cells e fz cs) => some (.cells e fz (a07 q cs))
 | some (.arr e sig l) => some (.arr e sig (x8 1000 q l))
 | x => x
def E6 (ρ : Nat → Nat) (q : Nat → SX) (m : Nat) : List (Option Blk) → Nat → Heap → Heap
 | [], _, h => h
 | x :: r, i, h => E6 ρ q m r (i + 1) (bif Nat.blt i m then h.put (ρ i) (ag7 ρ (U3 q x)) else (match ag7 ρ (U3 q x) with
   | some y => h.new y
   | none => h))
def bW7 (e : SX) (v : AV) (h : Heap) : Res := match e with
 | .cb true => .val v h
 | e => .need e v h
def b52 (c : FC) (b : Binding) (h : Heap) : Res :=
 bW7 (ax7 b.nd (P4 b.es c.need)) (ax8 (a29 b.src h.next) (Q6 (aJ8 b.es c.outs) c.out)) (E6 (a29 b.src h.next) (aJ8 b.es c.outs) c.blks.length c.post c.mt h)
def bG3 (x : AV) (h : Heap) : Option (SX × AV × Heap) := match x with
 | .ous b len s => (match h.get b with
   | some (.arr e sig l) => bif Nat.ble h.wm b && !(SX.beq len (.op .llen [l])) && Nat.beq s sig.length then
    some (.op .and [.op (.cmp .leq) [.ci 0, len], .op (.cmp .leq) [len, .op .llen [l]]], .ous b (.op .llen [.op .lsub [l, .ci 0, len]]) s, h.put b (some (.arr e sig (.op .lsub [l, .ci 0, len])))) else none
   | _ => none)
 | _ => none
def a72 : List AV → Heap → SX × List AV × Heap
 | [], h => (.cb true, [], h)
 | x :: r, h => match bG3 x h with
   | some (e, x', h') => (match a72 r h' with
     | (e', r', h2) => (ax7 e e', x' :: r', h2))
   | none => (match a72 r h with
     | (e', r', h2) => (e', x :: r', h2))
def aD1 (nd : SX) (r : Res) : Res := match r with
 | .val v h => bW7 nd v h
 | .need e v h => .need (ax7 nd e) v h
 | _ => .bad
def ar0 (c : FC) (nv : Nat) (args : List AV) (h : Heap) : Res := match b51 c nv args h with
 | some b => b52 c b h
 | none => .bad
def K1 (c : FC) (nv : Nat) (args : List AV) (h : Heap) : Res := match b51 c nv args h with
 | some b => b52 c b h
 | none => (match a72 args h with
   | (nd, args', h') => aD1 nd (ar0 c nv args' h'))
mutual
def B8 : AV → AV → Bool
 | .tup a, x => (match x with
   | .tup b => J8 a b
   | _ => false)
 | .agg a, x => (match x with
   | .agg b => Nat.beq a.length b.length
   | _ => false)
 | _, x => (match x with
   | .tup _ => false
   | .agg _ => false
   | _ => true)
def J8 : List AV → List AV → Bool
 | [], x => (match x with
   | [] => true
   | _ => false)
 | a :: r, x => (match x with
   | b :: q => B8 a b && J8 r q
   | [] => false)
end
def cC9 (post : List (Option Blk)) (k : Nat) : Option (Nat × List CT) := match post[k]? with
 | some (some (.arr e sig _)) => some (e, sig)
 | _ => none
def aU9 (post : List (Option Blk)) (mt m base : Nat) : List AV → Nat → List OwnP
 | [], _ => []
 | .ous i _ _ :: r, t => bif Nat.ble m i then (match cC9 post (i - mt) with
   | some (e, sig) => ⟨t, base + (i - m), e, sig, none⟩ :: aU9 post mt m base r (t + 1)
   | none => aU9 post mt m base r (t + 1)) else aU9 post mt m base r (t + 1)
 | _ :: r, t => aU9 post mt m base r (t + 1)
def cq8 (h : Heap) (b s : Nat) (x : AV) : Bool := match x, h.get b with
 | .ous c (.op .llen [l]) s', some (.arr _ _ l') => Nat.beq b c && Nat.beq s s' && SX.beq l l'
 | _, _ => false
def ce0 (m base n : Nat) (h : Heap) (p x : AV) : Option (List SX) := match p with
 | .ous i q s => bif Nat.ble m i then (bif cq8 h (base + (i - m)) s x then some [] else none) else p7 1000 base n (.ous i q s) x
 | p => p7 1000 base n p x
def bW8 (m base : Nat) (h : Heap) (a : Fr) : List AV → Nat → Nat → Option (List SX)
 | [], _, _ => some []
 | p :: ps, t, n => match ce0 m base n h p (a.slot t) with
   | some e => match bW8 m base h a ps (t + 1) (n + e.length) with
     | some es => some (e ++ es)
     | none => none
   | none => none
def bW9 (m base : Nat) (h : Heap) : List (Option Blk) → Nat → Nat → Option (List SX)
 | [], _, _ => some []
 | p :: ps, i, n => match aG0 1000 base n p (h.get (bif Nat.blt i m then i else base + (i - m))) with
   | some e => match bW9 m base h ps (i + 1) (n + e.length) with
     | some es => some (e ++ es)
     | none => none
   | none => none
def cx6 (pc : PC) : List SX → List SX
 | [] => []
 | e :: r => cw6 pc 16 e :: cx6 pc r
def cF8 (c : FC) (m base : Nat) (p : Fr × Heap) (pc : PC) : VT := match bW8 m base p.2 p.1 (K8 c.out) 0 0 with
 | some es => match bW9 m base p.2 c.post c.mt es.length with
   | some fs => .ret 0 (cx6 pc (es ++ fs))
   | none => .bad
 | none => .bad
def cF9 (c : FC) (m base : Nat) (owns : List OwnP) (xs : List AV) (h : Heap) (pc : PC) : VT :=
 match b07 owns ⟨M9 xs 0 TF.empty, xs.length, [], 0, [], none⟩ (h.upto (Nat.add base owns.length)) with
 | some p => cF8 c m base p pc
 | none => .bad
def bp0 (h : Heap) (x : AV) : SX × AV := match x with
 | .ous r len s => match h.get r with
   | some (.arr _ _ l) => bif SX.beq len (.op .llen [l]) then (.cb true, x) else (.op (.cmp .eql) [len, .op .llen [l]], .ous r (.op .llen [l]) s)
   | _ => (.cb true, x)
 | x => (.cb true, x)
def aD2 (h : Heap) : List AV → SX × List AV
 | [] => (.cb true, [])
 | a :: r => match bp0 h a, aD2 h r with
   | (e, x), (e', xs) => (ax7 e e', x :: xs)
def cG0 (c : FC) (h : Heap) (p : SX × List AV) : RPT := aG2.need p.1 (cF9 c c.blks.length h.next (aU9 c.post c.mt c.blks.length h.next (K8 c.out) 0) p.2 h)
def kFC (c : FC) (v : AV) (h : Heap) : RPT :=
 bif B8 c.out v && Nat.ble (K8 v).length 256 then cG0 c h (aD2 h (K8 v)) else fun _ => .bad
def T2 : List Blk → Heap → Heap
 | [], h => h
 | x :: r, h => T2 r (h.new x)
def cq9 (wm : Nat) (t : TH) (next _ : Nat) : Heap := ⟨t, next, wm⟩
def Heap.setwm (h : Heap) (wm : Nat) : Heap := Heap.rec (cq9 wm) h
def FC.heap (c : FC) : Heap := (T2 c.blks Heap.empty).setwm c.mt
def FC.run (E : Env) (fuel : Nat) (f : FuncId) (c : FC) (args : List AV) : VT := ev E fuel RPT aG2 (.body f args c.heap (kFC c)) []
end
end Go.Ev
