import Derived.Test.YtdhepaehegnfdaaGreatDoorE16y
set_option linter.unusedVariables false
set_option linter.unusedSimpArgs false
namespace Go.Ev
open Go
variable {E : Env} {β : Bij} {ω : Opq} {K : Nat → Prop} {w0 w : World} {h h' : Heap} {ρA : Operand → Option AV} {ρ : Operand → Value}
def clo (c : CT) (x : Val) : AV := match c with
 | .int k => .int k x.toI
 | .str => .str x.toS
 | .bool => .bool x.toB
def ao3 (r : Val) : List CT → Nat → List AV
 | [], _ => []
 | c :: cs, j => clo c (r.toL.getD j default) :: ao3 r cs (j + 1)
def a38 (r : Val) : List CT → Nat → List Value
 | [], _ => []
 | c :: cs, j => O8 c (r.toL.getD j default) :: a38 r cs (j + 1)
theorem bB0 (c : CT) (x : Val) : VR β ω (clo c x) (O8 c x) := by cases c <;> rfl
theorem ao4 (r : Val) : ∀ (sig : List CT) (j : Nat), VRs β ω (ao3 r sig j) (a38 r sig j)
 | [], _ => rfl
 | c :: cs, j => .cons (bB0 c _) (ao4 r cs (j + 1))
theorem S8 (r : Val) : ∀ (sig : List CT) (j : Nat), (a38 r sig j).length = sig.length
 | [], _ => rfl
 | c :: cs, j => by simp [a38, S8 r cs (j + 1)]
theorem bc3 (r : Val) : ∀ (a b : List CT) (j : Nat), a38 r (a ++ b) j = a38 r a j ++ a38 r b (j + a.length)
 | [], b, j => rfl
 | c :: a, b, j => by
   have := bc3 r a b (j + 1)
   simp only [List.cons_append, a38, this, List.length_cons]
   rw [show j + 1 + a.length = j + (a.length + 1) by omega]
theorem aS8 (sig : List CT) (r : Val) : ∀ (s : List CT) (j : Nat), sig.drop j = s → (List.range' j s.length).map (fun t => O8 (sig.getD t .bool) (r.toL.getD t default)) = a38 r s j
 | [], j, _ => rfl
 | c :: s, j, h => by
   have h1 : sig.getD j .bool = c := by
    have := congrArg (fun z : List CT => z[0]?) h
    simp only [List.getElem?_drop, Nat.add_zero, List.getElem?_cons_zero] at this
    rw [List.getD_eq_getElem?_getD, this]; rfl
   have h2 : sig.drop (j + 1) = s := by
    have := congrArg List.tail h
    simpa [List.tail_drop] using this
   rw [List.length_cons, List.range'_succ, List.map_cons, h1, aS8 sig r s (j + 1) h2]; rfl
theorem I3 (sig : List CT) (r : Val) : N0 sig r = a38 r sig 0 := by
 have := aS8 sig r sig 0 rfl
 rw [← this]
 unfold N0
 rw [List.range_eq_range']
theorem bc4 (ks vs : List CT) (r : Val) : c89 ks vs r = (ooa (a38 r ks 0), ooa (a38 r vs ks.length)) := by
 unfold c89
 rw [I3, bc3, Nat.zero_add]
 have := S8 r ks 0
 rw [← this, List.take_left, List.drop_left]
theorem bB1 : ∀ {a : List AV} {us : List Value}, VRs β ω a us → VR β ω (bO8 a) (ooa us)
 | [], us, h => by rw [show us = [] from h]; exact ⟨_, rfl, rfl⟩
 | [x], us, ⟨v, vr, e, h1, h2⟩ => by rw [e, show vr = [] from h2]; exact h1
 | x :: y :: r, us, ⟨v, vr, e, h1, u, ur, e2, h3, h4⟩ => by
   rw [e, e2]
   exact ⟨_, rfl, .cons h1 (.cons h3 h4)⟩
theorem aH6 {us : List Value} (h : 2 ≤ us.length) : ooa us = .agg us.toArray := by
 match us, h with
 | _ :: _ :: _, _ => rfl
def b29 (ω : Opq) (n : Nat) (k r : Val) : Opq := ⟨ω.v, fun i => if i < n then k.toL.getD i default else r.toL.getD (i - n) default, ω.f, ω.one, ω.fix⟩
theorem bB2 (ω : Opq) (c : CT) (e : SX) : I7 ω (bk9 c e) = clo c (den ω e) := by cases c <;> rfl
theorem a62 {ω' : Opq} {r : Val} : ∀ (s : List CT) (i j : Nat), (∀ t, t < s.length → ω'.w (i + t) = r.toL.getD (j + t) default) → an7 ω' (ah8 s i) = ao3 r s j
 | [], _, _, _ => rfl
 | c :: s, i, j, h => by
   have h0 := h 0 (by simp)
   have ih := a62 s (i + 1) (j + 1) (fun t ht => by
    have := h (t + 1) (by simp; omega)
    rw [show i + 1 + t = i + (t + 1) by omega, show j + 1 + t = j + (t + 1) by omega]; exact this)
   simp only [ah8, an7, ao3, bB2, ih]
   rw [show den ω' (.va i) = ω'.w i from rfl, show ω'.w i = r.toL.getD j default by simpa using h0]
theorem bc5 {ω' : Opq} {k r : Val} : ∀ (s : List CT) (i j c : Nat), (∀ t, t < s.length → ω'.w (i + t) = k.toL.getD (c + t) default) → (∀ t, t < s.length → ω'.w (j + t) = r.toL.getD (c + t) default) → dB ω' (cw2 s i j) = co0 r k s c
 | [], _, _, _, _, _ => rfl
 | q :: s, i, j, c, h1, h2 => by
   have a := h1 0 (by simp)
   have b := h2 0 (by simp)
   simp only [Nat.add_zero] at a b
   have ih := bc5 s (i + 1) (j + 1) (c + 1) (fun t ht => by
    have := h1 (t + 1) (by simp; omega)
    rw [show i + 1 + t = i + (t + 1) by omega, show c + 1 + t = c + (t + 1) by omega]; exact this) (fun t ht => by
    have := h2 (t + 1) (by simp; omega)
    rw [show j + 1 + t = j + (t + 1) by omega, show c + 1 + t = c + (t + 1) by omega]; exact this)
   have hand : ∀ x y : SX, dB ω' (ax7 x y) = (dB ω' x && dB ω' y) := fun x y => by
    unfold ax7
    split
    · rfl
    · split
      · show dB ω' _ = (dB ω' _ && true); rw [Bool.and_true]
      · rfl
   simp only [cw2, co0, hand, ih]
   congr 1
   cases q
   · show decide ((ω'.w i).toI = (ω'.w j).toI) = _; rw [a, b]; rfl
   · show decide ((ω'.w i).toS = (ω'.w j).toS) = _; rw [a, b]; rfl
   · show ((ω'.w i).toB == (ω'.w j).toB) = _; rw [a, b]; rfl
theorem bT1 {P : Program} {kt : TypeId} {ks : List CT} (hk : aF7 P kt ks = true) (k r : Val) : eqE P 10000 kt (.agg (ao3 k ks 0)) (.agg (ao3 r ks 0)) = some (keq ks r k) := by
 unfold aF7 at hk
 obtain ⟨_, hk⟩ := g9 hk
 split at hk
 · rename_i e he
   obtain rfl := SX.beq_eq _ _ hk
   have := bA1 (ω := b29 ω0 ks.length k r) 10000 he
   simp only [I7] at this
   rw [a62 (r := k) ks 0 0 (fun t ht => by simp [b29, ht]), a62 (r := r) ks ks.length 0 (fun t ht => by simp only [b29]; rw [if_neg (by omega), Nat.add_sub_cancel_left, Nat.zero_add])] at this
   rw [this, bc5 (k := k) (r := r) ks 0 ks.length 0 (fun t ht => by simp [b29, ht]) (fun t ht => by simp only [b29]; rw [if_neg (by omega), Nat.add_sub_cancel_left, Nat.zero_add])]
   rfl
 · cases hk
theorem bc6 {P : Program} {kt : TypeId} {ks : List CT} (hk : aF7 P kt ks = true) (k : Val) : ak7 P kt (.agg (ao3 k ks 0)) = true := by
 unfold aF7 at hk
 obtain ⟨hk, _⟩ := g9 hk
 have e : ao3 k ks 0 = an7 (b29 ω0 ks.length k k) (ah8 ks 0) := (a62 (r := k) ks 0 0 (fun t ht => by simp [b29, ht])).symm
 rw [e]
 unfold ak7 at hk ⊢
 split at hk
 · rename_i h1; cases h1
 · rename_i h1; cases h1
 · rename_i h1; cases h1
 · rename_i fields cs hu hq
   cases hq
   rw [hu]
   simp only
   rw [Array.all_eq_true'] at hk ⊢
   intro f hf
   obtain ⟨h1, h2⟩ := g9 (hk f hf)
   obtain ⟨a, ha⟩ := Option.isSome_iff_exists.1 h1
   rw [ab4 ha, h2]; rfl
 · cases hk
def cF6 (ks vs : List CT) (r : Val) : AV × AV := (.agg (ao3 r ks 0), bO8 (ao3 r vs ks.length))
theorem b30 {ks vs : List CT} (h2 : 2 ≤ ks.length) : ∀ {rows : List Val} {m : List MapEntry}, (m.map fun e => (e.key, e.val)) = rows.map (c89 ks vs) → ∃ es, ERs β ω es m ∧ (es.map fun e => (e.key, e.val)) = rows.map (cF6 ks vs)
 | [], [], _ => ⟨[], .nil, rfl⟩
 | [], _ :: _, h => by cases h
 | _ :: _, [], h => by cases h
 | r :: rows, e :: m, h => by
   simp only [List.map_cons, List.cons.injEq] at h
   obtain ⟨es, h3, h4⟩ := b30 h2 (rows := rows) (m := m) h.2
   rw [bc4] at h
   obtain ⟨k, v, b⟩ := e
   have hk : k = ooa (a38 r ks 0) := congrArg Prod.fst h.1
   have hv : v = ooa (a38 r vs ks.length) := congrArg Prod.snd h.1
   refine ⟨⟨.agg (ao3 r ks 0), bO8 (ao3 r vs ks.length), b⟩ :: es, .cons ?_ ?_ h3, by simp only [List.map_cons, h4]; rfl⟩
   · rw [hk, aH6 (by rw [S8]; exact h2)]
     exact ⟨_, rfl, ao4 r ks 0⟩
   · rw [hv]; exact bB1 (ao4 r vs ks.length)
theorem ao5 {P : Program} {kt : TypeId} {ks vs : List CT} (hk : aF7 P kt ks = true) (k : Val) : ∀ {rows : List Val} {es : List Ent} (i : Nat), (es.map fun e => (e.key, e.val)) = rows.map (cF6 ks vs) →
 (rows.findIdx (fun r => keq ks r k) = rows.length ∧ a13 P kt (.agg (ao3 k ks 0)) es i = some none) ∨
 ∃ e r, rows.findIdx (fun r => keq ks r k) < rows.length ∧ rows[rows.findIdx (fun r => keq ks r k)]? = some r ∧ keq ks r k = true ∧ a13 P kt (.agg (ao3 k ks 0)) es i = some (some (i + rows.findIdx (fun r => keq ks r k), e)) ∧ e.key = .agg (ao3 r ks 0) ∧ e.val = bO8 (ao3 r vs ks.length)
 | [], [], i, _ => .inl ⟨rfl, rfl⟩
 | [], _ :: _, i, h => by cases h
 | _ :: _, [], i, h => by cases h
 | r :: rows, e :: es, i, h => by
   simp only [List.map_cons, List.cons.injEq] at h
   have h1 : e.key = .agg (ao3 r ks 0) := congrArg Prod.fst h.1
   have h2 : e.val = bO8 (ao3 r vs ks.length) := congrArg Prod.snd h.1
   have hq := bT1 hk k r
   rw [List.findIdx_cons]
   cases hc : keq ks r k with
   | true =>
     rw [hc] at hq
     refine .inr ⟨e, r, by simp, by simp, hc, ?_, h1, h2⟩
     simp only [a13, h1, hq, cond_true, Nat.add_zero]
   | false =>
     rw [hc] at hq
     simp only [cond_false]
     rcases ao5 hk k (i + 1) h.2 with ⟨a, b⟩ | ⟨e', r', a1, a2, a3, a4, a5, a6⟩
     · exact .inl ⟨by rw [a]; rfl, by simp only [a13, h1, hq]; exact b⟩
     · refine .inr ⟨e', r', by rw [List.length_cons]; exact Nat.succ_lt_succ a1, by simpa using a2, a3, ?_, a5, a6⟩
       simp only [a13, h1, hq]
       rw [a4]; congr 3; omega
theorem HR.marr {b : Nat} {ks vs : List CT} {l : SX} {L : Loc} (r : HR β ω K w0 h w) (hg : h.get b = some (.marr ks vs l)) (hb : β b = some L) :
 ∃ E c, w.heap[L.blk]? = some (.map E c) ∧ (E.toList.map fun e => (e.key, e.val)) = (dL ω l).map (c89 ks vs) := r.blk b _ L hg hb
theorem bc7 (ks : List CT) (l : SX) (es : List SX) : dI ω (bO7 ks l es) = ((dL ω l).findIdx (fun r => keq ks r (.vl (k5 ω es))) : Nat) := rfl
theorem ai1 (ks : List CT) (l : SX) (es : List SX) : dB ω (aO6 ks l es) = decide ((dL ω l).findIdx (fun r => keq ks r (.vl (k5 ω es))) < (dL ω l).length) := by
  show decide (((dL ω l).findIdx (fun r => keq ks r (.vl (k5 ω es))) : Int) < ((dL ω l).length : Int)) = _
  simp
theorem aH7 (c a b : SX) : den ω (.op .ite [c, a, b]) = bif dB ω c then den ω a else den ω b := rfl
theorem aS9 {ks : List CT} {l : SX} {es : List SX} {r : Val} (hh : dB ω (aO6 ks l es) = true) (hr : (dL ω l)[(dL ω l).findIdx (fun r => keq ks r (.vl (k5 ω es)))]? = some r) : ∀ (vs : List CT) (j : Nat) (zs : List SX), zs.length = vs.length → VRs β ω (aF8 ks l es vs j zs) (a38 r vs j)
 | [], _, _, _ => by unfold aF8; rfl
 | c :: vs, j, [], h => by simp at h
 | c :: vs, j, z :: zs, h => by
   have ih := aS9 hh hr vs (j + 1) zs (by simpa using h)
   refine .cons ?_ ih
   have e : den ω (.op .ite [aO6 ks l es, .op .lget [l, bO7 ks l es, .ci j], z]) = r.toL.getD j default := by
    rw [aH7, hh]
    show A5 (dL ω l) (dI ω (bO7 ks l es)) (j : Int) = _
    rw [bc7]
    show ((dL ω l).getD _ (.vl [])).toL.getD j default = _
    rw [List.getD_eq_getElem?_getD]
    show (((dL ω l)[(dL ω l).findIdx _]?).getD (.vl [])).toL.getD j default = _
    rw [hr]; rfl
   have := a60 (β := β) (ω := ω) c (.op .ite [aO6 ks l es, .op .lget [l, bO7 ks l es, .ci j], z])
   rw [e] at this
   exact this
theorem aT0 {ks : List CT} {l : SX} {es : List SX} (hh : dB ω (aO6 ks l es) = false) : ∀ (vs : List CT) (j i : Nat) (zs : List SX) (q : Val), zs.length = vs.length → (∀ t, t < zs.length → q.toL.getD (i + t) default = den ω (zs.getD t (.cb false))) → VRs β ω (aF8 ks l es vs j zs) (a38 q vs i)
 | [], _, _, _, _, _, _ => by unfold aF8; rfl
 | c :: vs, j, i, [], q, h, _ => by simp at h
 | c :: vs, j, i, z :: zs, q, h, hq => by
   have ih := aT0 hh vs (j + 1) (i + 1) zs q (by simpa using h) (fun t ht => by
     have := hq (t + 1) (by simp; omega)
     rw [show i + 1 + t = i + (t + 1) by omega]; simpa using this)
   refine .cons ?_ ih
   have e : den ω (.op .ite [aO6 ks l es, .op .lget [l, bO7 ks l es, .ci j], z]) = q.toL.getD i default := by
    rw [aH7, hh]
    have := hq 0 (by simp)
    simpa using this.symm
   have := a60 (β := β) (ω := ω) c (.op .ite [aO6 ks l es, .op .lget [l, bO7 ks l es, .ci j], z])
   rw [e] at this
   exact this
theorem ao6 {vs : List CT} {z : AV} {v : Value} (hs : V5 vs z = true) (hv : VR β ω z v) (hl : v.cells.toList.length = vs.length) : ooa v.cells.toList = v := by
 match vs, hs with
 | [c], hs =>
   have h1 := VR.one hv (show z.one = true from hs)
   have : v.cells = #[v] := by cases v <;> first | rfl | (simp [Value.oneCell'] at h1)
   rw [this]; rfl
 | _ :: _ :: _, hs =>
   cases z with
   | agg cs =>
     obtain ⟨xs, rfl, _⟩ := hv
     show ooa xs.toList = _
     have : 2 ≤ xs.toList.length := by
      have : xs.toList.length = _ := hl
      rw [this]; simp
     rw [aH6 this]
   | _ => cases hs
theorem bB3 {c : CT} {x : Val} {v : Value} (h : VR β ω (clo c x) v) : v = O8 c x := by cases c <;> exact h
theorem aH8 (r : Val) : ∀ (sig : List CT) (j : Nat) {us : List Value}, VRs β ω (ao3 r sig j) us → us = a38 r sig j
 | [], _, _, h => h
 | c :: cs, j, _, ⟨v, vr, e, h1, h2⟩ => by rw [e, bB3 h1, aH8 r cs (j + 1) h2]; rfl
theorem cb1 (r : Val) (sig : List CT) (j : Nat) {v : Value} (h : VR β ω (bO8 (ao3 r sig j)) v) : v = ooa (a38 r sig j) := by
 match sig, h with
 | [], ⟨xs, e, h⟩ => rw [e]; show Value.agg xs = Value.agg _; congr 1; exact Array.toList_inj.1 h
 | [c], h => exact bB3 h
 | c :: d :: s, ⟨xs, e, h⟩ =>
   rw [e, aH6 (by rw [S8]; simp), ← aH8 r (c :: d :: s) j h]
theorem ao7 (ω : Opq) : ∀ l : List SX, (k5 ω l).length = l.length
 | [] => rfl
 | _ :: r => by simp [k5, ao7 ω r]
theorem bc8 (ω : Opq) : ∀ (l : List SX) (t : Nat), t < l.length → (k5 ω l).getD t default = den ω (l.getD t (.cb false))
 | [], t, h => by simp at h
 | x :: r, 0, _ => rfl
 | x :: r, t + 1, h => by
   have := bc8 ω r t (by simpa using h)
   simpa [k5] using this
theorem G2 : ∀ {sig : List CT} {vs : List AV} {es : List SX}, v8 sig vs = some es → es.length = sig.length
 | [], [], es, h => by simp only [v8, Option.some.injEq] at h; subst h; rfl
 | [], _ :: _, es, h => by cases h
 | _ :: _, [], es, h => by cases h
 | c :: cs, v :: vs, es, h => by
   unfold v8 at h
   split at h
   · rename_i e es' h1 h2
     simp only [Option.some.injEq] at h; subst h
     simp [G2 h2]
   · cases h
theorem bc9 {vs : List CT} {z : AV} (hs : V5 vs z = true) : z.nt = true := by
 unfold V5 at hs
 split at hs
 · cases hs
 · cases z <;> first | rfl | cases hs
 · cases z <;> first | rfl | cases hs
theorem bn3 (r : HR β ω K w0 h w) (o : OpR β ω ρA ρ) (t : TypeId) (m k : Operand) (ok : Bool) : SOk E β ω K w0 w h (do pure (.value (← Instr.lookup t (ρ m) (ρ k) ok))) (aF9 E.P t h (ρA m) (ρA k) ok) := by
 unfold aF9
 split
 · rename_i kt et ht
   split
   · rename_i b hm
     split
     · rename_i cs hk
       have rm := o m _ hm
       have rk := o k _ hk
       simp only [VR] at rm
       obtain ⟨L, hL, em⟩ := rm
       obtain ⟨xs, ek, rx⟩ := rk
       unfold bu9
       split
       · rename_i ks vs l z hg hz
         split
         · rename_i es zs hes hzs
           cases hc : (aF7 E.P kt ks && Nat.ble 2 ks.length && V5 vs z) with
           | false => trivial
           | true =>
             obtain ⟨hc, hsh⟩ := g9 hc
             obtain ⟨hkt, h2⟩ := g9 hc
             rw [j2] at h2
             simp only [cond_true]
             obtain ⟨En, c, q1, q2⟩ := r.marr hg hL
             obtain ⟨ents, hE, hmap⟩ := b30 h2 q2
             have hxs : xs.toList = a38 (.vl (k5 ω es)) ks 0 := by rw [A2 hes rx, I3]
             have rk' : VR β ω (.agg (ao3 (.vl (k5 ω es)) ks 0)) (ρ k) := ⟨xs, ek, by rw [hxs]; exact ao4 _ _ _⟩
             have hko := bc6 hkt (.vl (k5 ω es))
             rcases ao5 hkt (.vl (k5 ω es)) 0 hmap with ⟨a, hf⟩ | ⟨e, row, a1, a2, a3, hf, a5, a6⟩
             · have hhas : dB ω (aO6 ks l es) = false := by rw [ai1, a]; simp
               obtain ⟨v', hv', hrun⟩ := B4 hko rk' hE hf
               simp only [FR] at hv'; subst hv'
               obtain ⟨zv, z1, z2⟩ := ab3 hz
               have hzc := A2 hzs ((z1 β ω).cells (bc9 hsh))
               rw [I3] at hzc
               have hvr : VR β ω (bO8 (aF8 ks l es vs ks.length zs)) zv := by
                have := bB1 (aT0 (β := β) hhas vs ks.length 0 zs (.vl (k5 ω zs)) (G2 hzs) (fun t ht => by rw [Nat.zero_add]; exact bc8 ω zs t ht))
                rw [← hzc] at this
                rw [ao6 hsh (z1 β ω) (by rw [hzc, S8])] at this
                exact this
               refine C0.pureV r (u := if ok then .tuple #[zv, .bool false] else zv) ?_ ?_
               · cases ok
                 · exact hvr
                 · exact ⟨_, rfl, .cons hvr (.one (by show _ = Value.bool (dB ω (aO6 ks l es)); rw [hhas]))⟩
               · simp only [em, Instr.lookup, Sem.run_bind, b9 ht, Result.andThen_ok, Sem.run_pure, o7 q1, B3 hko rk', hrun, z2]
             · have hhas : dB ω (aO6 ks l es) = true := by rw [ai1]; exact decide_eq_true a1
               obtain ⟨v', hv', hrun⟩ := B4 hko rk' hE hf
               obtain ⟨k2, v2, e1, e2, e3, e4, e5⟩ := hv'
               subst e1
               rw [a6] at e5
               have hv2 := cb1 row vs ks.length e5
               have hvr : VR β ω (bO8 (aF8 ks l es vs ks.length zs)) v2 := by
                rw [hv2]; exact bB1 (aS9 hhas a2 vs ks.length zs (G2 hzs))
               refine C0.pureV r (u := if ok then .tuple #[v2, .bool true] else v2) ?_ ?_
               · cases ok
                 · exact hvr
                 · exact ⟨_, rfl, .cons hvr (.one (by show _ = Value.bool (dB ω (aO6 ks l es)); rw [hhas]))⟩
               · simp only [em, Instr.lookup, Sem.run_bind, b9 ht, Result.andThen_ok, Sem.run_pure, o7 q1, B3 hko rk', hrun]
         · trivial
       · trivial
     · trivial
   · trivial
 · trivial
theorem ab7 {r q : Val} : ∀ (sig : List CT) (j i : Nat), (∀ t, t < sig.length → r.toL.getD (j + t) default = q.toL.getD (i + t) default) → a38 r sig j = a38 q sig i
 | [], _, _, _ => rfl
 | c :: cs, j, i, h => by
   have h0 := h 0 (by simp)
   have ih := ab7 cs (j + 1) (i + 1) (fun t ht => by
    have := h (t + 1) (by simp; omega)
    rw [show j + 1 + t = j + (t + 1) by omega, show i + 1 + t = i + (t + 1) by omega]; exact this)
   simp only [Nat.add_zero] at h0
   simp only [a38, h0, ih]
theorem bd0 {r k : Val} : ∀ (sig : List CT) (j : Nat), co0 r k sig j = true → a38 r sig j = a38 k sig j
 | [], _, _ => rfl
 | c :: cs, j, h => by
   obtain ⟨h1, h2⟩ := g9 h
   have : O8 c (r.toL.getD j default) = O8 c (k.toL.getD j default) := by
    cases c
    · have := of_decide_eq_true h1; show Value.int _ _ = Value.int _ _; rw [this]
    · have := of_decide_eq_true h1; show Value.string _ = Value.string _; rw [this]
    · have := eq_of_beq h1; show Value.bool _ = Value.bool _; rw [this]
   simp only [a38, this, bd0 cs (j + 1) h2]
theorem ae7 (k : Val) : ∀ (sig : List CT) (j : Nat), ((a38 k sig j).zip (a38 k sig j)).all (fun (x, y) => Instr.sameBits 9999 x y) = true
 | [], _ => rfl
 | c :: cs, j => by
   simp only [a38, List.zip_cons_cons, List.all_cons, Bool.and_eq_true]
   exact ⟨am8 (β := fun _ => none) (ω := ω0) (a := clo c (k.toL.getD j default)) (b := clo c (k.toL.getD j default)) 9999 (by cases c <;> simp [clo, aP1, G0, S5]) (bB0 c _) (bB0 c _), ae7 k cs (j + 1)⟩
theorem aT1 (ω : Opq) : ∀ a b : List SX, k5 ω (a ++ b) = k5 ω a ++ k5 ω b
 | [], _ => rfl
 | x :: a, b => by simp [k5, aT1 ω a b]
theorem cb2 {ks vs : List CT} {es xs : List SX} {a b : List Value} (h1 : es.length = ks.length) (h2 : xs.length = vs.length) (ha : a = N0 ks (.vl (k5 ω es))) (hb : b = N0 vs (.vl (k5 ω xs))) : c89 ks vs (.vl (k5 ω (es ++ xs))) = (ooa a, ooa b) := by
 rw [bc4, ha, hb, I3, I3, aT1]
 have q1 := ao7 ω es
 have q2 := ao7 ω xs
 congr 2
 · refine ab7 ks 0 0 fun t ht => ?_
   show (k5 ω es ++ k5 ω xs).getD (0 + t) default = (k5 ω es).getD (0 + t) default
   rw [List.getD_eq_getElem?_getD, List.getD_eq_getElem?_getD, List.getElem?_append_left (by omega)]
 · refine ab7 vs ks.length 0 fun t ht => ?_
   show (k5 ω es ++ k5 ω xs).getD (ks.length + t) default = (k5 ω xs).getD (0 + t) default
   rw [List.getD_eq_getElem?_getD, List.getD_eq_getElem?_getD, List.getElem?_append_right (by omega)]
   congr 2; omega
theorem bB4 {vs : List CT} {x : AV} {v : Value} (hs : V5 vs x = true) (hv : VR β ω x v) {b : List Value} (hb : v.cells.toList = b) (hl : b.length = vs.length) : ooa b = v := by
 subst hb
 exact ao6 hs hv hl
theorem bn4 {α : Type} {l : List α} {i : Nat} {e : α} {f : α → α} (h : l[i]? = some e) : l.modify i f = l.set i (f e) := by
 have hi : i < l.length := by
  cases Nat.lt_or_ge i l.length with
  | inl h1 => exact h1
  | inr h1 => rw [List.getElem?_eq_none h1] at h; cases h
 refine List.ext_getElem? fun j => ?_
 rw [List.getElem?_modify, List.getElem?_set]
 by_cases hj : i = j
 · subst hj; rw [h, if_pos rfl, if_pos hi]; simp
 · simp [hj]
theorem bT2 {ks : List CT} {l : SX} {es xs : List SX} (h : dB ω (aO6 ks l es) = true) : dL ω (cl9 ks l es xs) = (dL ω l).set ((dL ω l).findIdx (fun r => keq ks r (.vl (k5 ω es)))) (.vl (k5 ω (es ++ xs))) := by
  show (den ω (.op .ite _)).toL = _
  rw [aH7, h]
  show (dL ω l).set (dI ω (bO7 ks l es)).toNat _ = _
  rw [bc7]; rfl
theorem bT3 {ks : List CT} {l : SX} {es xs : List SX} (h : dB ω (aO6 ks l es) = false) : dL ω (cl9 ks l es xs) = dL ω l ++ [.vl (k5 ω (es ++ xs))] := by
 show (den ω (.op .ite _)).toL = _
 rw [aH7, h]; rfl
theorem aT2 (r : HR β ω K w0 h w) (o : OpR β ω ρA ρ) (t : TypeId) (m k x : Operand) : SOk E β ω K w0 w h (do Instr.mapUpdate t (ρ m) (ρ k) (ρ x); pure .skip) (ba5 E.P t h (ρA m) (ρA k) (ρA x)) := by
 unfold ba5
 split
 · rename_i kt et ht
   split
   · rename_i b hm
     split
     · rename_i cs hk
       split
       · rename_i xv hx
         split
         · rename_i zk z hzk hz
           split
           · rename_i ks vs hks hvs
             have rm := o m _ hm
             have rk := o k _ hk
             have rx := o x _ hx
             simp only [VR] at rm
             obtain ⟨L, hL, em⟩ := rm
             have rk0 := rk
             obtain ⟨kx, ek, rkx⟩ := rk
             unfold bv0
             split
             · rename_i es xs hes hxs
               cases hc : (aF7 E.P kt ks && Nat.ble 2 ks.length && V5 vs xv && Nat.ble h.wm b) with
               | false => trivial
               | true =>
                 obtain ⟨hc, hwm⟩ := g9 hc
                 obtain ⟨hc, hsh⟩ := g9 hc
                 obtain ⟨hkt, h2⟩ := g9 hc
                 rw [j2] at h2 hwm
                 simp only [cond_true]
                 have hkx := A2 hes rkx
                 have hvx := A2 hxs (rx.cells (bc9 hsh))
                 have l1 := G2 hes
                 have l2 := G2 hxs
                 have hent := cb2 (ω := ω) l1 l2 hkx hvx
                 have hkey : ooa kx.toList = ρ k := by
                  rw [ek, aH6 (by rw [hkx, I3, S8]; exact h2)]
                 have hval : ooa (ρ x).cells.toList = ρ x := bB4 hsh rx rfl (by rw [hvx, I3, S8])
                 rw [hkey, hval] at hent
                 have hkc : kx.toList = a38 (.vl (k5 ω es)) ks 0 := by rw [hkx, I3]
                 have rk' : VR β ω (.agg (ao3 (.vl (k5 ω es)) ks 0)) (ρ k) := ⟨kx, ek, by rw [hkc]; exact ao4 _ _ _⟩
                 have hko := bc6 hkt (.vl (k5 ω es))
                 split
                 · rename_i ks' vs' l hg
                   cases hq : (B6 ks' ks && B6 vs' vs) with
                   | false => trivial
                   | true =>
                     obtain ⟨e1, e2⟩ := g9 hq
                     obtain rfl := R1 e1
                     obtain rfl := R1 e2
                     simp only [cond_true]
                     obtain ⟨En, c, q1, q2⟩ := r.marr hg hL
                     obtain ⟨ents, hE, hmap⟩ := b30 h2 q2
                     refine C0.ofU ?_
                     rcases ao5 hkt (.vl (k5 ω es)) 0 hmap with ⟨a, hf⟩ | ⟨e, row, a1, a2, a3, hf, a5, a6⟩
                     · have hhas : dB ω (aO6 ks' l es) = false := by rw [ai1, a]; simp
                       obtain ⟨v', hv', hrun⟩ := B4 hko rk' hE hf
                       simp only [FR] at hv'; subst hv'
                       obtain ⟨p1, p2⟩ := r.set1 b _ (.marr ks' vs' (cl9 ks' l es xs)) L (.map (En.push ⟨ρ k, ρ x, c⟩) (c + 1)) hg hL hwm
                        ⟨_, _, rfl, by rw [Array.toList_push, List.map_append, q2, bT3 hhas, List.map_append]; simp only [List.map_cons, List.map_nil, hent]⟩
                       refine ⟨_, ?_, p1, p2⟩
                       simp only [em, Instr.mapUpdate, Sem.run_bind, b9 ht, Result.andThen_ok, o7 q1, B3 hko rk', hrun, y6 _ q1]
                     · have hhas : dB ω (aO6 ks' l es) = true := by rw [ai1]; exact decide_eq_true a1
                       obtain ⟨v', hv', hrun⟩ := B4 hko rk' hE hf
                       obtain ⟨k2, v2, e1, e2, e3, e4, e5⟩ := hv'
                       subst e1
                       rw [Nat.zero_add] at e2 e3
                       have he3 : En[(dL ω l).findIdx (fun r => keq ks' r (.vl (k5 ω es)))]? = some ⟨k2, v2, e.born⟩ := by simpa using e3
                       have hk2 : k2 = ρ k := by
                        rw [a5] at e4
                        obtain ⟨ys, ey, ry⟩ := e4
                        have := aH8 row ks' 0 ry
                        rw [bd0 ks' 0 a3, ← hkc] at this
                        rw [ey, ek, Array.toList_inj.1 this]
                       have hsb : Instr.sameBits 10000 (ρ k) (ρ k) = true := by
                        rw [ek]
                        show (kx.size == kx.size && (kx.toList.zip kx.toList).all fun (x, y) => Instr.sameBits 9999 x y) = true
                        rw [hkc, ae7]; simp
                       have hst : ∀ w, (Instr.keyThatStays k2 (ρ k)).run E.P w = .ok (ρ k) w := fun w => by simp [Instr.keyThatStays, hk2, hsb]
                       obtain ⟨p1, p2⟩ := r.set1 b _ (.marr ks' vs' (cl9 ks' l es xs)) L (.map (En.modify ((dL ω l).findIdx (fun r => keq ks' r (.vl (k5 ω es)))) fun x' => { x' with key := ρ k, val := ρ x }) c) hg hL hwm
                        ⟨_, _, rfl, by
                         rw [Array.toList_modify, bT2 hhas, List.map_set, hent, ← q2]
                         rw [bn4 e3, List.map_set]⟩
                       refine ⟨_, ?_, p1, p2⟩
                       simp only [em, Instr.mapUpdate, Sem.run_bind, b9 ht, Result.andThen_ok, o7 q1, B3 hko rk', hrun, Nat.zero_add, he3, Option.map_some, Option.getD_some, hst, y6 _ q1]
                 · rename_i c hg
                   obtain ⟨En, q1, q2⟩ := r.map hg hL
                   have hE : En = #[] := by
                    have : En.toList = [] := by generalize En.toList = z at q2; cases q2; rfl
                    exact Array.toList_inj.1 this
                   subst hE
                   refine C0.ofU ?_
                   have hf : a13 E.P kt (.agg (ao3 (.vl (k5 ω es)) ks 0)) [] 0 = some none := rfl
                   obtain ⟨v', hv', hrun⟩ := B4 (β := β) (ω := ω) hko rk' (es := []) (m := []) .nil hf
                   simp only [FR] at hv'; subst hv'
                   obtain ⟨p1, p2⟩ := r.set1 b _ (.marr ks vs (.op .row [.op .row (es ++ xs)])) L (.map (#[].push ⟨ρ k, ρ x, c⟩) (c + 1)) hg hL hwm
                    ⟨_, _, rfl, by
                     show [(ρ k, ρ x)] = [c89 ks vs (.vl (k5 ω (es ++ xs)))]
                     rw [hent]⟩
                   refine ⟨_, ?_, p1, p2⟩
                   simp only [em, Instr.mapUpdate, Sem.run_bind, b9 ht, Result.andThen_ok, o7 q1, B3 hko rk', hrun, y6 _ q1]
                 · trivial
             · trivial
           · trivial
         · trivial
       · trivial
     · trivial
   · trivial
 · trivial
end Go.Ev
