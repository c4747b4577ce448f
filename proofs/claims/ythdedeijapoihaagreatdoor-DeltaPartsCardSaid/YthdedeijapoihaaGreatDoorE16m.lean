import Derived.Test.YthdedeijapoihaaGreatDoorE16y
set_option autoImplicit false
set_option linter.unusedVariables false
set_option linter.unusedSimpArgs false
namespace Go.Ev
open Go
variable {E : Env} {β : Bij} {ω : Opq} {K : Nat → Prop} {w0 w : World} {h h' : Heap} {ρA : Operand → Option AV} {ρ : Operand → Value}
def clo (c : CT) (x : Val) : AV := match c with
 | .int k => .int k x.toI
 | .str => .str x.toS
 | .bool => .bool x.toB
def ag7 (r : Val) : List CT → Nat → List AV
 | [], _ => []
 | c :: cs, j => clo c (r.toL.getD j default) :: ag7 r cs (j + 1)
def a14 (r : Val) : List CT → Nat → List Value
 | [], _ => []
 | c :: cs, j => M4 c (r.toL.getD j default) :: a14 r cs (j + 1)
theorem bo3 (c : CT) (x : Val) : VR β ω (clo c x) (M4 c x) := by cases c <;> rfl
theorem ag8 (r : Val) : ∀ (sig : List CT) (j : Nat), VRs β ω (ag7 r sig j) (a14 r sig j)
 | [], _ => rfl
 | c :: cs, j => .cons (bo3 c _) (ag8 r cs (j + 1))
theorem P8 (r : Val) : ∀ (sig : List CT) (j : Nat), (a14 r sig j).length = sig.length
 | [], _ => rfl
 | c :: cs, j => by simp [a14, P8 r cs (j + 1)]
theorem b04 (r : Val) : ∀ (a b : List CT) (j : Nat), a14 r (a ++ b) j = a14 r a j ++ a14 r b (j + a.length)
 | [], b, j => rfl
 | c :: a, b, j => by
   have := b04 r a b (j + 1)
   simp only [List.cons_append, a14, this, List.length_cons]
   rw [show j + 1 + a.length = j + (a.length + 1) by omega]
theorem aI1 (sig : List CT) (r : Val) : ∀ (s : List CT) (j : Nat), sig.drop j = s → (List.range' j s.length).map (fun t => M4 (sig.getD t .bool) (r.toL.getD t default)) = a14 r s j
 | [], j, _ => rfl
 | c :: s, j, h => by
   have h1 : sig.getD j .bool = c := by
    have := congrArg (fun z : List CT => z[0]?) h
    simp only [List.getElem?_drop, Nat.add_zero, List.getElem?_cons_zero] at this
    rw [List.getD_eq_getElem?_getD, this]; rfl
   have h2 : sig.drop (j + 1) = s := by
    have := congrArg List.tail h
    simpa [List.tail_drop] using this
   rw [List.length_cons, List.range'_succ, List.map_cons, h1, aI1 sig r s (j + 1) h2]; rfl
theorem M8 (sig : List CT) (r : Val) : R3 sig r = a14 r sig 0 := by
 have := aI1 sig r sig 0 rfl
 rw [← this]
 unfold R3
 rw [List.range_eq_range']
theorem b05 (ks vs : List CT) (r : Val) : bW6 ks vs r = (ooa (a14 r ks 0), ooa (a14 r vs ks.length)) := by
 unfold bW6
 rw [M8, b04, Nat.zero_add]
 have := P8 r ks 0
 rw [← this, List.take_left, List.drop_left]
theorem bo4 : ∀ {a : List AV} {us : List Value}, VRs β ω a us → VR β ω (bB6 a) (ooa us)
 | [], us, h => by rw [show us = [] from h]; exact ⟨_, rfl, rfl⟩
 | [x], us, ⟨v, vr, e, h1, h2⟩ => by rw [e, show vr = [] from h2]; exact h1
 | x :: y :: r, us, ⟨v, vr, e, h1, u, ur, e2, h3, h4⟩ => by
   rw [e, e2]
   exact ⟨_, rfl, .cons h1 (.cons h3 h4)⟩
theorem ay1 {us : List Value} (h : 2 ≤ us.length) : ooa us = .agg us.toArray := by
 match us, h with
 | _ :: _ :: _, _ => rfl
def aR6 (ω : Opq) (n : Nat) (k r : Val) : Opq := ⟨ω.v, fun i => if i < n then k.toL.getD i default else r.toL.getD (i - n) default, ω.f, ω.one, ω.fix⟩
theorem bo5 (ω : Opq) (c : CT) (e : SX) : F8 ω (b89 c e) = clo c (den ω e) := by cases c <;> rfl
theorem a15 {ω' : Opq} {r : Val} : ∀ (s : List CT) (i j : Nat), (∀ t, t < s.length → ω'.w (i + t) = r.toL.getD (j + t) default) → ag1 ω' (bU5 s i) = ag7 r s j
 | [], _, _, _ => rfl
 | c :: s, i, j, h => by
   have h0 := h 0 (by simp)
   have ih := a15 s (i + 1) (j + 1) (fun t ht => by
    have := h (t + 1) (by simp; omega)
    rw [show i + 1 + t = i + (t + 1) by omega, show j + 1 + t = j + (t + 1) by omega]; exact this)
   simp only [bU5, ag1, ag7, bo5, ih]
   rw [show den ω' (.va i) = ω'.w i from rfl, show ω'.w i = r.toL.getD j default by simpa using h0]
theorem b06 {ω' : Opq} {k r : Val} : ∀ (s : List CT) (i j c : Nat), (∀ t, t < s.length → ω'.w (i + t) = k.toL.getD (c + t) default) → (∀ t, t < s.length → ω'.w (j + t) = r.toL.getD (c + t) default) → dB ω' (cm4 s i j) = cd2 r k s c
 | [], _, _, _, _, _ => rfl
 | q :: s, i, j, c, h1, h2 => by
   have a := h1 0 (by simp)
   have b := h2 0 (by simp)
   simp only [Nat.add_zero] at a b
   have ih := b06 s (i + 1) (j + 1) (c + 1) (fun t ht => by
    have := h1 (t + 1) (by simp; omega)
    rw [show i + 1 + t = i + (t + 1) by omega, show c + 1 + t = c + (t + 1) by omega]; exact this) (fun t ht => by
    have := h2 (t + 1) (by simp; omega)
    rw [show j + 1 + t = j + (t + 1) by omega, show c + 1 + t = c + (t + 1) by omega]; exact this)
   have hand : ∀ x y : SX, dB ω' (ao8 x y) = (dB ω' x && dB ω' y) := fun x y => by
    unfold ao8
    split
    · rfl
    · split
      · show dB ω' _ = (dB ω' _ && true); rw [Bool.and_true]
      · rfl
   simp only [cm4, cd2, hand, ih]
   congr 1
   cases q
   · show decide ((ω'.w i).toI = (ω'.w j).toI) = _; rw [a, b]; rfl
   · show decide ((ω'.w i).toS = (ω'.w j).toS) = _; rw [a, b]; rfl
   · show ((ω'.w i).toB == (ω'.w j).toB) = _; rw [a, b]; rfl
theorem bG0 {P : Program} {kt : TypeId} {ks : List CT} (hk : aw2 P kt ks = true) (k r : Val) : eqE P 10000 kt (.agg (ag7 k ks 0)) (.agg (ag7 r ks 0)) = some (keq ks r k) := by
 unfold aw2 at hk
 obtain ⟨_, hk⟩ := a9 hk
 split at hk
 · rename_i e he
   obtain rfl := SX.beq_eq _ _ hk
   have := bn4 (ω := aR6 ω0 ks.length k r) 10000 he
   simp only [F8] at this
   rw [a15 (r := k) ks 0 0 (fun t ht => by simp [aR6, ht]), a15 (r := r) ks ks.length 0 (fun t ht => by simp only [aR6]; rw [if_neg (by omega), Nat.add_sub_cancel_left, Nat.zero_add])] at this
   rw [this, b06 (k := k) (r := r) ks 0 ks.length 0 (fun t ht => by simp [aR6, ht]) (fun t ht => by simp only [aR6]; rw [if_neg (by omega), Nat.add_sub_cancel_left, Nat.zero_add])]
   rfl
 · cases hk
theorem b07 {P : Program} {kt : TypeId} {ks : List CT} (hk : aw2 P kt ks = true) (k : Val) : ad1 P kt (.agg (ag7 k ks 0)) = true := by
 unfold aw2 at hk
 obtain ⟨hk, _⟩ := a9 hk
 have e : ag7 k ks 0 = ag1 (aR6 ω0 ks.length k k) (bU5 ks 0) := (a15 (r := k) ks 0 0 (fun t ht => by simp [aR6, ht])).symm
 rw [e]
 unfold ad1 at hk ⊢
 split at hk
 · rename_i h1; cases h1
 · rename_i h1; cases h1
 · rename_i h1; cases h1
 · rename_i fields cs hu hq
   cases hq
   rw [hu]
   simp only
   rw [Array.all_eq_true'] at hk ⊢
   intro f hf
   obtain ⟨h1, h2⟩ := a9 (hk f hf)
   obtain ⟨a, ha⟩ := Option.isSome_iff_exists.1 h1
   rw [a52 ha, h2]; rfl
 · cases hk
def cw4 (ks vs : List CT) (r : Val) : AV × AV := (.agg (ag7 r ks 0), bB6 (ag7 r vs ks.length))
theorem aR7 {ks vs : List CT} (h2 : 2 ≤ ks.length) : ∀ {rows : List Val} {m : List MapEntry}, (m.map fun e => (e.key, e.val)) = rows.map (bW6 ks vs) → ∃ es, ERs β ω es m ∧ (es.map fun e => (e.key, e.val)) = rows.map (cw4 ks vs)
 | [], [], _ => ⟨[], .nil, rfl⟩
 | [], _ :: _, h => by cases h
 | _ :: _, [], h => by cases h
 | r :: rows, e :: m, h => by
   simp only [List.map_cons, List.cons.injEq] at h
   obtain ⟨es, h3, h4⟩ := aR7 h2 (rows := rows) (m := m) h.2
   rw [b05] at h
   obtain ⟨k, v, b⟩ := e
   have hk : k = ooa (a14 r ks 0) := congrArg Prod.fst h.1
   have hv : v = ooa (a14 r vs ks.length) := congrArg Prod.snd h.1
   refine ⟨⟨.agg (ag7 r ks 0), bB6 (ag7 r vs ks.length), b⟩ :: es, .cons ?_ ?_ h3, by simp only [List.map_cons, h4]; rfl⟩
   · rw [hk, ay1 (by rw [P8]; exact h2)]
     exact ⟨_, rfl, ag8 r ks 0⟩
   · rw [hv]; exact bo4 (ag8 r vs ks.length)
theorem ag9 {P : Program} {kt : TypeId} {ks vs : List CT} (hk : aw2 P kt ks = true) (k : Val) : ∀ {rows : List Val} {es : List Ent} (i : Nat), (es.map fun e => (e.key, e.val)) = rows.map (cw4 ks vs) →
 (rows.findIdx (fun r => keq ks r k) = rows.length ∧ X7 P kt (.agg (ag7 k ks 0)) es i = some none) ∨
 ∃ e r, rows.findIdx (fun r => keq ks r k) < rows.length ∧ rows[rows.findIdx (fun r => keq ks r k)]? = some r ∧ keq ks r k = true ∧ X7 P kt (.agg (ag7 k ks 0)) es i = some (some (i + rows.findIdx (fun r => keq ks r k), e)) ∧ e.key = .agg (ag7 r ks 0) ∧ e.val = bB6 (ag7 r vs ks.length)
 | [], [], i, _ => .inl ⟨rfl, rfl⟩
 | [], _ :: _, i, h => by cases h
 | _ :: _, [], i, h => by cases h
 | r :: rows, e :: es, i, h => by
   simp only [List.map_cons, List.cons.injEq] at h
   have h1 : e.key = .agg (ag7 r ks 0) := congrArg Prod.fst h.1
   have h2 : e.val = bB6 (ag7 r vs ks.length) := congrArg Prod.snd h.1
   have hq := bG0 hk k r
   rw [List.findIdx_cons]
   cases hc : keq ks r k with
   | true =>
     rw [hc] at hq
     refine .inr ⟨e, r, by simp, by simp, hc, ?_, h1, h2⟩
     simp only [X7, h1, hq, cond_true, Nat.add_zero]
   | false =>
     rw [hc] at hq
     simp only [cond_false]
     rcases ag9 hk k (i + 1) h.2 with ⟨a, b⟩ | ⟨e', r', a1, a2, a3, a4, a5, a6⟩
     · exact .inl ⟨by rw [a]; rfl, by simp only [X7, h1, hq]; exact b⟩
     · refine .inr ⟨e', r', by rw [List.length_cons]; exact Nat.succ_lt_succ a1, by simpa using a2, a3, ?_, a5, a6⟩
       simp only [X7, h1, hq]
       rw [a4]; congr 3; omega
theorem HR.marr {b : Nat} {ks vs : List CT} {l : SX} {L : Loc} (r : HR β ω K w0 h w) (hg : h.get b = some (.marr ks vs l)) (hb : β b = some L) :
 ∃ E c, w.heap[L.blk]? = some (.map E c) ∧ (E.toList.map fun e => (e.key, e.val)) = (dL ω l).map (bW6 ks vs) := r.blk b _ L hg hb
theorem b08 (ks : List CT) (l : SX) (es : List SX) : dI ω (bB5 ks l es) = ((dL ω l).findIdx (fun r => keq ks r (.vl (j3 ω es))) : Nat) := rfl
theorem ab1 (ks : List CT) (l : SX) (es : List SX) : dB ω (aD8 ks l es) = decide ((dL ω l).findIdx (fun r => keq ks r (.vl (j3 ω es))) < (dL ω l).length) := by
  show decide (((dL ω l).findIdx (fun r => keq ks r (.vl (j3 ω es))) : Int) < ((dL ω l).length : Int)) = _
  simp
theorem ay2 (c a b : SX) : den ω (.op .ite [c, a, b]) = bif dB ω c then den ω a else den ω b := rfl
theorem aI2 {ks : List CT} {l : SX} {es : List SX} {r : Val} (hh : dB ω (aD8 ks l es) = true) (hr : (dL ω l)[(dL ω l).findIdx (fun r => keq ks r (.vl (j3 ω es)))]? = some r) : ∀ (vs : List CT) (j : Nat) (zs : List SX), zs.length = vs.length → VRs β ω (aw3 ks l es vs j zs) (a14 r vs j)
 | [], _, _, _ => by unfold aw3; rfl
 | c :: vs, j, [], h => by simp at h
 | c :: vs, j, z :: zs, h => by
   have ih := aI2 hh hr vs (j + 1) zs (by simpa using h)
   refine .cons ?_ ih
   have e : den ω (.op .ite [aD8 ks l es, .op .lget [l, bB5 ks l es, .ci j], z]) = r.toL.getD j default := by
    rw [ay2, hh]
    show w6 (dL ω l) (dI ω (bB5 ks l es)) (j : Int) = _
    rw [b08]
    show ((dL ω l).getD _ (.vl [])).toL.getD j default = _
    rw [List.getD_eq_getElem?_getD]
    show (((dL ω l)[(dL ω l).findIdx _]?).getD (.vl [])).toL.getD j default = _
    rw [hr]; rfl
   have := ab0 (β := β) (ω := ω) c (.op .ite [aD8 ks l es, .op .lget [l, bB5 ks l es, .ci j], z])
   rw [e] at this
   exact this
theorem aI3 {ks : List CT} {l : SX} {es : List SX} (hh : dB ω (aD8 ks l es) = false) : ∀ (vs : List CT) (j i : Nat) (zs : List SX) (q : Val), zs.length = vs.length → (∀ t, t < zs.length → q.toL.getD (i + t) default = den ω (zs.getD t (.cb false))) → VRs β ω (aw3 ks l es vs j zs) (a14 q vs i)
 | [], _, _, _, _, _, _ => by unfold aw3; rfl
 | c :: vs, j, i, [], q, h, _ => by simp at h
 | c :: vs, j, i, z :: zs, q, h, hq => by
   have ih := aI3 hh vs (j + 1) (i + 1) zs q (by simpa using h) (fun t ht => by
     have := hq (t + 1) (by simp; omega)
     rw [show i + 1 + t = i + (t + 1) by omega]; simpa using this)
   refine .cons ?_ ih
   have e : den ω (.op .ite [aD8 ks l es, .op .lget [l, bB5 ks l es, .ci j], z]) = q.toL.getD i default := by
    rw [ay2, hh]
    have := hq 0 (by simp)
    simpa using this.symm
   have := ab0 (β := β) (ω := ω) c (.op .ite [aD8 ks l es, .op .lget [l, bB5 ks l es, .ci j], z])
   rw [e] at this
   exact this
theorem ah0 {vs : List CT} {z : AV} {v : Value} (hs : R6 vs z = true) (hv : VR β ω z v) (hl : v.cells.toList.length = vs.length) : ooa v.cells.toList = v := by
 match vs, hs with
 | [c], hs =>
   have h1 := VR.one hv (show z.one = true from hs)
   have : v.cells = #[v] := by cases v <;> first | rfl | (simp [Value.oneCell'] at h1)
   rw [this]; rfl
 | _ :: _ :: _, hs =>
   cases z with
   | agg cs =>
     obtain ⟨xs, rfl, _⟩ := hv
     show ooa xs.toList = _
     have : 2 ≤ xs.toList.length := by
      have : xs.toList.length = _ := hl
      rw [this]; simp
     rw [ay1 this]
   | _ => cases hs
theorem bo6 {c : CT} {x : Val} {v : Value} (h : VR β ω (clo c x) v) : v = M4 c x := by cases c <;> exact h
theorem ay3 (r : Val) : ∀ (sig : List CT) (j : Nat) {us : List Value}, VRs β ω (ag7 r sig j) us → us = a14 r sig j
 | [], _, _, h => h
 | c :: cs, j, _, ⟨v, vr, e, h1, h2⟩ => by rw [e, bo6 h1, ay3 r cs (j + 1) h2]; rfl
theorem bY8 (r : Val) (sig : List CT) (j : Nat) {v : Value} (h : VR β ω (bB6 (ag7 r sig j)) v) : v = ooa (a14 r sig j) := by
 match sig, h with
 | [], ⟨xs, e, h⟩ => rw [e]; show Value.agg xs = Value.agg _; congr 1; exact Array.toList_inj.1 h
 | [c], h => exact bo6 h
 | c :: d :: s, ⟨xs, e, h⟩ =>
   rw [e, ay1 (by rw [P8]; simp), ← ay3 r (c :: d :: s) j h]
theorem ah1 (ω : Opq) : ∀ l : List SX, (j3 ω l).length = l.length
 | [] => rfl
 | _ :: r => by simp [j3, ah1 ω r]
theorem b09 (ω : Opq) : ∀ (l : List SX) (t : Nat), t < l.length → (j3 ω l).getD t default = den ω (l.getD t (.cb false))
 | [], t, h => by simp at h
 | x :: r, 0, _ => rfl
 | x :: r, t + 1, h => by
   have := b09 ω r t (by simpa using h)
   simpa [j3] using this
theorem E3 : ∀ {sig : List CT} {vs : List AV} {es : List SX}, u4 sig vs = some es → es.length = sig.length
 | [], [], es, h => by simp only [u4, Option.some.injEq] at h; subst h; rfl
 | [], _ :: _, es, h => by cases h
 | _ :: _, [], es, h => by cases h
 | c :: cs, v :: vs, es, h => by
   unfold u4 at h
   split at h
   · rename_i e es' h1 h2
     simp only [Option.some.injEq] at h; subst h
     simp [E3 h2]
   · cases h
theorem b10 {vs : List CT} {z : AV} (hs : R6 vs z = true) : z.nt = true := by
 unfold R6 at hs
 split at hs
 · cases hs
 · cases z <;> first | rfl | cases hs
 · cases z <;> first | rfl | cases hs
theorem bb3 (r : HR β ω K w0 h w) (o : OpR β ω ρA ρ) (t : TypeId) (m k : Operand) (ok : Bool) : SOk E β ω K w0 w h (do pure (.value (← Instr.lookup t (ρ m) (ρ k) ok))) (aw4 E.P t h (ρA m) (ρA k) ok) := by
 unfold aw4
 split
 · rename_i kt et ht
   split
   · rename_i b hm
     split
     · rename_i cs hk
       have rm := o m _ hm
       have rk := o k _ hk
       simp only [VR] at rm
       obtain ⟨L, hL, em⟩ := rm
       obtain ⟨xs, ek, rx⟩ := rk
       unfold bi2
       split
       · rename_i ks vs l z hg hz
         split
         · rename_i es zs hes hzs
           cases hc : (aw2 E.P kt ks && Nat.ble 2 ks.length && R6 vs z) with
           | false => trivial
           | true =>
             obtain ⟨hc, hsh⟩ := a9 hc
             obtain ⟨hkt, h2⟩ := a9 hc
             rw [e9] at h2
             simp only [cond_true]
             obtain ⟨En, c, q1, q2⟩ := r.marr hg hL
             obtain ⟨ents, hE, hmap⟩ := aR7 h2 q2
             have hxs : xs.toList = a14 (.vl (j3 ω es)) ks 0 := by rw [x9 hes rx, M8]
             have rk' : VR β ω (.agg (ag7 (.vl (j3 ω es)) ks 0)) (ρ k) := ⟨xs, ek, by rw [hxs]; exact ag8 _ _ _⟩
             have hko := b07 hkt (.vl (j3 ω es))
             rcases ag9 hkt (.vl (j3 ω es)) 0 hmap with ⟨a, hf⟩ | ⟨e, row, a1, a2, a3, hf, a5, a6⟩
             · have hhas : dB ω (aD8 ks l es) = false := by rw [ab1, a]; simp
               obtain ⟨v', hv', hrun⟩ := A9 hko rk' hE hf
               simp only [FR] at hv'; subst hv'
               obtain ⟨zv, z1, z2⟩ := a51 hz
               have hzc := x9 hzs ((z1 β ω).cells (b10 hsh))
               rw [M8] at hzc
               have hvr : VR β ω (bB6 (aw3 ks l es vs ks.length zs)) zv := by
                have := bo4 (aI3 (β := β) hhas vs ks.length 0 zs (.vl (j3 ω zs)) (E3 hzs) (fun t ht => by rw [Nat.zero_add]; exact b09 ω zs t ht))
                rw [← hzc] at this
                rw [ah0 hsh (z1 β ω) (by rw [hzc, P8])] at this
                exact this
               refine B4.pureV r (u := if ok then .tuple #[zv, .bool false] else zv) ?_ ?_
               · cases ok
                 · exact hvr
                 · exact ⟨_, rfl, .cons hvr (.one (by show _ = Value.bool (dB ω (aD8 ks l es)); rw [hhas]))⟩
               · simp only [em, Instr.lookup, Sem.run_bind, b9 ht, Result.andThen_ok, Sem.run_pure, m8 q1, A8 hko rk', hrun, z2]
             · have hhas : dB ω (aD8 ks l es) = true := by rw [ab1]; exact decide_eq_true a1
               obtain ⟨v', hv', hrun⟩ := A9 hko rk' hE hf
               obtain ⟨k2, v2, e1, e2, e3, e4, e5⟩ := hv'
               subst e1
               rw [a6] at e5
               have hv2 := bY8 row vs ks.length e5
               have hvr : VR β ω (bB6 (aw3 ks l es vs ks.length zs)) v2 := by
                rw [hv2]; exact bo4 (aI2 hhas a2 vs ks.length zs (E3 hzs))
               refine B4.pureV r (u := if ok then .tuple #[v2, .bool true] else v2) ?_ ?_
               · cases ok
                 · exact hvr
                 · exact ⟨_, rfl, .cons hvr (.one (by show _ = Value.bool (dB ω (aD8 ks l es)); rw [hhas]))⟩
               · simp only [em, Instr.lookup, Sem.run_bind, b9 ht, Result.andThen_ok, Sem.run_pure, m8 q1, A8 hko rk', hrun]
         · trivial
       · trivial
     · trivial
   · trivial
 · trivial
theorem a55 {r q : Val} : ∀ (sig : List CT) (j i : Nat), (∀ t, t < sig.length → r.toL.getD (j + t) default = q.toL.getD (i + t) default) → a14 r sig j = a14 q sig i
 | [], _, _, _ => rfl
 | c :: cs, j, i, h => by
   have h0 := h 0 (by simp)
   have ih := a55 cs (j + 1) (i + 1) (fun t ht => by
    have := h (t + 1) (by simp; omega)
    rw [show j + 1 + t = j + (t + 1) by omega, show i + 1 + t = i + (t + 1) by omega]; exact this)
   simp only [Nat.add_zero] at h0
   simp only [a14, h0, ih]
theorem b11 {r k : Val} : ∀ (sig : List CT) (j : Nat), cd2 r k sig j = true → a14 r sig j = a14 k sig j
 | [], _, _ => rfl
 | c :: cs, j, h => by
   obtain ⟨h1, h2⟩ := a9 h
   have : M4 c (r.toL.getD j default) = M4 c (k.toL.getD j default) := by
    cases c
    · have := of_decide_eq_true h1; show Value.int _ _ = Value.int _ _; rw [this]
    · have := of_decide_eq_true h1; show Value.string _ = Value.string _; rw [this]
    · have := eq_of_beq h1; show Value.bool _ = Value.bool _; rw [this]
   simp only [a14, this, b11 cs (j + 1) h2]
theorem a81 (k : Val) : ∀ (sig : List CT) (j : Nat), ((a14 k sig j).zip (a14 k sig j)).all (fun (x, y) => Instr.sameBits 9999 x y) = true
 | [], _ => rfl
 | c :: cs, j => by
   simp only [a14, List.zip_cons_cons, List.all_cons, Bool.and_eq_true]
   exact ⟨af2 (β := fun _ => none) (ω := ω0) (a := clo c (k.toL.getD j default)) (b := clo c (k.toL.getD j default)) 9999 (by cases c <;> simp [clo, aE4, E1, P5]) (bo3 c _) (bo3 c _), a81 k cs (j + 1)⟩
theorem aI4 (ω : Opq) : ∀ a b : List SX, j3 ω (a ++ b) = j3 ω a ++ j3 ω b
 | [], _ => rfl
 | x :: a, b => by simp [j3, aI4 ω a b]
theorem bY9 {ks vs : List CT} {es xs : List SX} {a b : List Value} (h1 : es.length = ks.length) (h2 : xs.length = vs.length) (ha : a = R3 ks (.vl (j3 ω es))) (hb : b = R3 vs (.vl (j3 ω xs))) : bW6 ks vs (.vl (j3 ω (es ++ xs))) = (ooa a, ooa b) := by
 rw [b05, ha, hb, M8, M8, aI4]
 have q1 := ah1 ω es
 have q2 := ah1 ω xs
 congr 2
 · refine a55 ks 0 0 fun t ht => ?_
   show (j3 ω es ++ j3 ω xs).getD (0 + t) default = (j3 ω es).getD (0 + t) default
   rw [List.getD_eq_getElem?_getD, List.getD_eq_getElem?_getD, List.getElem?_append_left (by omega)]
 · refine a55 vs ks.length 0 fun t ht => ?_
   show (j3 ω es ++ j3 ω xs).getD (ks.length + t) default = (j3 ω xs).getD (0 + t) default
   rw [List.getD_eq_getElem?_getD, List.getD_eq_getElem?_getD, List.getElem?_append_right (by omega)]
   congr 2; omega
theorem bo7 {vs : List CT} {x : AV} {v : Value} (hs : R6 vs x = true) (hv : VR β ω x v) {b : List Value} (hb : v.cells.toList = b) (hl : b.length = vs.length) : ooa b = v := by
 subst hb
 exact ah0 hs hv hl
theorem bb4 {α : Type} {l : List α} {i : Nat} {e : α} {f : α → α} (h : l[i]? = some e) : l.modify i f = l.set i (f e) := by
 have hi : i < l.length := by
  cases Nat.lt_or_ge i l.length with
  | inl h1 => exact h1
  | inr h1 => rw [List.getElem?_eq_none h1] at h; cases h
 refine List.ext_getElem? fun j => ?_
 rw [List.getElem?_modify, List.getElem?_set]
 by_cases hj : i = j
 · subst hj; rw [h, if_pos rfl, if_pos hi]; simp
 · simp [hj]
theorem bG1 {ks : List CT} {l : SX} {es xs : List SX} (h : dB ω (aD8 ks l es) = true) : dL ω (cb1 ks l es xs) = (dL ω l).set ((dL ω l).findIdx (fun r => keq ks r (.vl (j3 ω es)))) (.vl (j3 ω (es ++ xs))) := by
  show (den ω (.op .ite _)).toL = _
  rw [ay2, h]
  show (dL ω l).set (dI ω (bB5 ks l es)).toNat _ = _
  rw [b08]; rfl
theorem bG2 {ks : List CT} {l : SX} {es xs : List SX} (h : dB ω (aD8 ks l es) = false) : dL ω (cb1 ks l es xs) = dL ω l ++ [.vl (j3 ω (es ++ xs))] := by
 show (den ω (.op .ite _)).toL = _
 rw [ay2, h]; rfl
theorem aI5 (r : HR β ω K w0 h w) (o : OpR β ω ρA ρ) (t : TypeId) (m k x : Operand) : SOk E β ω K w0 w h (do Instr.mapUpdate t (ρ m) (ρ k) (ρ x); pure .skip) (aY6 E.P t h (ρA m) (ρA k) (ρA x)) := by
 unfold aY6
 split
 · rename_i kt et ht
   split
   · rename_i b hm
     split
     · rename_i cs hk
       split
       · rename_i xv hx
         split
         · rename_i zk z hzk hz
           split
           · rename_i ks vs hks hvs
             have rm := o m _ hm
             have rk := o k _ hk
             have rx := o x _ hx
             simp only [VR] at rm
             obtain ⟨L, hL, em⟩ := rm
             have rk0 := rk
             obtain ⟨kx, ek, rkx⟩ := rk
             unfold bi3
             split
             · rename_i es xs hes hxs
               cases hc : (aw2 E.P kt ks && Nat.ble 2 ks.length && R6 vs xv && Nat.ble h.wm b) with
               | false => trivial
               | true =>
                 obtain ⟨hc, hwm⟩ := a9 hc
                 obtain ⟨hc, hsh⟩ := a9 hc
                 obtain ⟨hkt, h2⟩ := a9 hc
                 rw [e9] at h2 hwm
                 simp only [cond_true]
                 have hkx := x9 hes rkx
                 have hvx := x9 hxs (rx.cells (b10 hsh))
                 have l1 := E3 hes
                 have l2 := E3 hxs
                 have hent := bY9 (ω := ω) l1 l2 hkx hvx
                 have hkey : ooa kx.toList = ρ k := by
                  rw [ek, ay1 (by rw [hkx, M8, P8]; exact h2)]
                 have hval : ooa (ρ x).cells.toList = ρ x := bo7 hsh rx rfl (by rw [hvx, M8, P8])
                 rw [hkey, hval] at hent
                 have hkc : kx.toList = a14 (.vl (j3 ω es)) ks 0 := by rw [hkx, M8]
                 have rk' : VR β ω (.agg (ag7 (.vl (j3 ω es)) ks 0)) (ρ k) := ⟨kx, ek, by rw [hkc]; exact ag8 _ _ _⟩
                 have hko := b07 hkt (.vl (j3 ω es))
                 split
                 · rename_i ks' vs' l hg
                   cases hq : (B0 ks' ks && B0 vs' vs) with
                   | false => trivial
                   | true =>
                     obtain ⟨e1, e2⟩ := a9 hq
                     obtain rfl := O6 e1
                     obtain rfl := O6 e2
                     simp only [cond_true]
                     obtain ⟨En, c, q1, q2⟩ := r.marr hg hL
                     obtain ⟨ents, hE, hmap⟩ := aR7 h2 q2
                     refine B4.ofU ?_
                     rcases ag9 hkt (.vl (j3 ω es)) 0 hmap with ⟨a, hf⟩ | ⟨e, row, a1, a2, a3, hf, a5, a6⟩
                     · have hhas : dB ω (aD8 ks' l es) = false := by rw [ab1, a]; simp
                       obtain ⟨v', hv', hrun⟩ := A9 hko rk' hE hf
                       simp only [FR] at hv'; subst hv'
                       obtain ⟨p1, p2⟩ := r.set1 b _ (.marr ks' vs' (cb1 ks' l es xs)) L (.map (En.push ⟨ρ k, ρ x, c⟩) (c + 1)) hg hL hwm
                        ⟨_, _, rfl, by rw [Array.toList_push, List.map_append, q2, bG2 hhas, List.map_append]; simp only [List.map_cons, List.map_nil, hent]⟩
                       refine ⟨_, ?_, p1, p2⟩
                       simp only [em, Instr.mapUpdate, Sem.run_bind, b9 ht, Result.andThen_ok, m8 q1, A8 hko rk', hrun, v8 _ q1]
                     · have hhas : dB ω (aD8 ks' l es) = true := by rw [ab1]; exact decide_eq_true a1
                       obtain ⟨v', hv', hrun⟩ := A9 hko rk' hE hf
                       obtain ⟨k2, v2, e1, e2, e3, e4, e5⟩ := hv'
                       subst e1
                       rw [Nat.zero_add] at e2 e3
                       have he3 : En[(dL ω l).findIdx (fun r => keq ks' r (.vl (j3 ω es)))]? = some ⟨k2, v2, e.born⟩ := by simpa using e3
                       have hk2 : k2 = ρ k := by
                        rw [a5] at e4
                        obtain ⟨ys, ey, ry⟩ := e4
                        have := ay3 row ks' 0 ry
                        rw [b11 ks' 0 a3, ← hkc] at this
                        rw [ey, ek, Array.toList_inj.1 this]
                       have hsb : Instr.sameBits 10000 (ρ k) (ρ k) = true := by
                        rw [ek]
                        show (kx.size == kx.size && (kx.toList.zip kx.toList).all fun (x, y) => Instr.sameBits 9999 x y) = true
                        rw [hkc, a81]; simp
                       have hst : ∀ w, (Instr.keyThatStays k2 (ρ k)).run E.P w = .ok (ρ k) w := fun w => by simp [Instr.keyThatStays, hk2, hsb]
                       obtain ⟨p1, p2⟩ := r.set1 b _ (.marr ks' vs' (cb1 ks' l es xs)) L (.map (En.modify ((dL ω l).findIdx (fun r => keq ks' r (.vl (j3 ω es)))) fun x' => { x' with key := ρ k, val := ρ x }) c) hg hL hwm
                        ⟨_, _, rfl, by
                         rw [Array.toList_modify, bG1 hhas, List.map_set, hent, ← q2]
                         rw [bb4 e3, List.map_set]⟩
                       refine ⟨_, ?_, p1, p2⟩
                       simp only [em, Instr.mapUpdate, Sem.run_bind, b9 ht, Result.andThen_ok, m8 q1, A8 hko rk', hrun, Nat.zero_add, he3, Option.map_some, Option.getD_some, hst, v8 _ q1]
                 · rename_i c hg
                   obtain ⟨En, q1, q2⟩ := r.map hg hL
                   have hE : En = #[] := by
                    have : En.toList = [] := by generalize En.toList = z at q2; cases q2; rfl
                    exact Array.toList_inj.1 this
                   subst hE
                   refine B4.ofU ?_
                   have hf : X7 E.P kt (.agg (ag7 (.vl (j3 ω es)) ks 0)) [] 0 = some none := rfl
                   obtain ⟨v', hv', hrun⟩ := A9 (β := β) (ω := ω) hko rk' (es := []) (m := []) .nil hf
                   simp only [FR] at hv'; subst hv'
                   obtain ⟨p1, p2⟩ := r.set1 b _ (.marr ks vs (.op .row [.op .row (es ++ xs)])) L (.map (#[].push ⟨ρ k, ρ x, c⟩) (c + 1)) hg hL hwm
                    ⟨_, _, rfl, by
                     show [(ρ k, ρ x)] = [bW6 ks vs (.vl (j3 ω (es ++ xs)))]
                     rw [hent]⟩
                   refine ⟨_, ?_, p1, p2⟩
                   simp only [em, Instr.mapUpdate, Sem.run_bind, b9 ht, Result.andThen_ok, m8 q1, A8 hko rk', hrun, v8 _ q1]
                 · trivial
             · trivial
           · trivial
         · trivial
       · trivial
     · trivial
   · trivial
 · trivial
end Go.Ev
