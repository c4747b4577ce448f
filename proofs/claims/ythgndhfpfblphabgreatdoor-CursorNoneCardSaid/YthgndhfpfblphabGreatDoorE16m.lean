/- The evaluator: maps whose entries are symbols. -/
import Derived.Test.YthgndhfpfblphabGreatDoorE16y
set_option linter.unusedVariables false
set_option linter.unusedSimpArgs false
namespace Go.Ev
open Go

variable {E : Env} {β : Bij} {ω : Opq} {K : Nat → Prop} {w0 w : World} {h h' : Heap} {ρA : Operand → Option AV} {ρ : Operand → Value}

/-- A row's columns from one on, as known values. -/
def clo (c : CT) (x : Val) : AV := match c with
  | .int k => .int k x.toI
  | .str => .str x.toS
  | .bool => .bool x.toB
def cloR (r : Val) : List CT → Nat → List AV
  | [], _ => []
  | c :: cs, j => clo c (r.toL.getD j default) :: cloR r cs (j + 1)
def valR (r : Val) : List CT → Nat → List Value
  | [], _ => []
  | c :: cs, j => cellV c (r.toL.getD j default) :: valR r cs (j + 1)
theorem clo_VR (c : CT) (x : Val) : VR β ω (clo c x) (cellV c x) := by cases c <;> rfl
theorem cloR_VR (r : Val) : ∀ (sig : List CT) (j : Nat), VRs β ω (cloR r sig j) (valR r sig j)
  | [], _ => rfl
  | c :: cs, j => .cons (clo_VR c _) (cloR_VR r cs (j + 1))
theorem valR_len (r : Val) : ∀ (sig : List CT) (j : Nat), (valR r sig j).length = sig.length
  | [], _ => rfl
  | c :: cs, j => by simp [valR, valR_len r cs (j + 1)]
theorem cloR_len (r : Val) : ∀ (sig : List CT) (j : Nat), (cloR r sig j).length = sig.length
  | [], _ => rfl
  | c :: cs, j => by simp [cloR, cloR_len r cs (j + 1)]
theorem valR_app (r : Val) : ∀ (a b : List CT) (j : Nat), valR r (a ++ b) j = valR r a j ++ valR r b (j + a.length)
  | [], b, j => rfl
  | c :: a, b, j => by
    have := valR_app r a b (j + 1)
    simp only [List.cons_append, valR, this, List.length_cons]
    rw [show j + 1 + a.length = j + (a.length + 1) by omega]
theorem rowV_get' (sig : List CT) (r : Val) : ∀ (s : List CT) (j : Nat), sig.drop j = s → (List.range' j s.length).map (fun t => cellV (sig.getD t .bool) (r.toL.getD t default)) = valR r s j
  | [], j, _ => rfl
  | c :: s, j, h => by
    have h1 : sig.getD j .bool = c := by
      have := congrArg (fun z : List CT => z[0]?) h
      simp only [List.getElem?_drop, Nat.add_zero, List.getElem?_cons_zero] at this
      rw [List.getD_eq_getElem?_getD, this]; rfl
    have h2 : sig.drop (j + 1) = s := by
      have := congrArg List.tail h
      simpa [List.tail_drop] using this
    rw [List.length_cons, List.range'_succ, List.map_cons, h1, rowV_get' sig r s (j + 1) h2]; rfl
theorem rowV_val (sig : List CT) (r : Val) : rowV sig r = valR r sig 0 := by
  have := rowV_get' sig r sig 0 rfl
  rw [← this]
  unfold rowV
  rw [List.range_eq_range']
theorem entV_val (ks vs : List CT) (r : Val) : entV ks vs r = (ooa (valR r ks 0), ooa (valR r vs ks.length)) := by
  unfold entV
  rw [rowV_val, valR_app, Nat.zero_add]
  have := valR_len r ks 0
  rw [← this, List.take_left, List.drop_left]
theorem ooa_VR : ∀ {a : List AV} {us : List Value}, VRs β ω a us → VR β ω (ooaA a) (ooa us)
  | [], us, h => by rw [show us = [] from h]; exact ⟨_, rfl, rfl⟩
  | [x], us, ⟨v, vr, e, h1, h2⟩ => by rw [e, show vr = [] from h2]; exact h1
  | x :: y :: r, us, ⟨v, vr, e, h1, u, ur, e2, h3, h4⟩ => by
    rw [e, e2]
    exact ⟨_, rfl, .cons h1 (.cons h3 h4)⟩
theorem ooa_agg {us : List Value} (h : 2 ≤ us.length) : ooa us = .agg us.toArray := by
  match us, h with
  | _ :: _ :: _, _ => rfl

/-! Keys are compared column by column. -/
def twoOm (ω : Opq) (n : Nat) (k r : Val) : Opq := ⟨ω.v, fun i => if i < n then k.toL.getD i default else r.toL.getD (i - n) default, ω.f, ω.one, ω.fix⟩
theorem conc_leaf (ω : Opq) (c : CT) (e : SX) : conc ω (leafE c e) = clo c (den ω e) := by cases c <;> rfl
theorem conc_patK {ω' : Opq} {r : Val} : ∀ (s : List CT) (i j : Nat), (∀ t, t < s.length → ω'.w (i + t) = r.toL.getD (j + t) default) → concs ω' (patK s i) = cloR r s j
  | [], _, _, _ => rfl
  | c :: s, i, j, h => by
    have h0 := h 0 (by simp)
    have ih := conc_patK s (i + 1) (j + 1) (fun t ht => by
      have := h (t + 1) (by simp; omega)
      rw [show i + 1 + t = i + (t + 1) by omega, show j + 1 + t = j + (t + 1) by omega]; exact this)
    simp only [patK, concs, cloR, conc_leaf, ih]
    rw [show den ω' (.va i) = ω'.w i from rfl, show ω'.w i = r.toL.getD j default by simpa using h0]
theorem keqX_den {ω' : Opq} {k r : Val} : ∀ (s : List CT) (i j c : Nat), (∀ t, t < s.length → ω'.w (i + t) = k.toL.getD (c + t) default) → (∀ t, t < s.length → ω'.w (j + t) = r.toL.getD (c + t) default) → dB ω' (keqX s i j) = keqF r k s c
  | [], _, _, _, _, _ => rfl
  | q :: s, i, j, c, h1, h2 => by
    have a := h1 0 (by simp)
    have b := h2 0 (by simp)
    simp only [Nat.add_zero] at a b
    have ih := keqX_den s (i + 1) (j + 1) (c + 1) (fun t ht => by
      have := h1 (t + 1) (by simp; omega)
      rw [show i + 1 + t = i + (t + 1) by omega, show c + 1 + t = c + (t + 1) by omega]; exact this) (fun t ht => by
      have := h2 (t + 1) (by simp; omega)
      rw [show j + 1 + t = j + (t + 1) by omega, show c + 1 + t = c + (t + 1) by omega]; exact this)
    have hand : ∀ x y : SX, dB ω' (andS x y) = (dB ω' x && dB ω' y) := fun x y => by
      unfold andS
      split
      · rfl
      · split
        · show dB ω' _ = (dB ω' _ && true); rw [Bool.and_true]
        · rfl
    simp only [keqX, keqF, hand, ih]
    congr 1
    cases q
    · show decide ((ω'.w i).toI = (ω'.w j).toI) = _; rw [a, b]; rfl
    · show decide ((ω'.w i).toS = (ω'.w j).toS) = _; rw [a, b]; rfl
    · show ((ω'.w i).toB == (ω'.w j).toB) = _; rw [a, b]; rfl
theorem keyTy_eq {P : Program} {kt : TypeId} {ks : List CT} (hk : keyTy P kt ks = true) (k r : Val) : eqE P 10000 kt (.agg (cloR k ks 0)) (.agg (cloR r ks 0)) = some (keq ks r k) := by
  unfold keyTy at hk
  obtain ⟨_, hk⟩ := and_t hk
  split at hk
  · rename_i e he
    obtain rfl := SX.beq_eq _ _ hk
    have := eqS_ok (ω := twoOm ω0 ks.length k r) 10000 he
    simp only [conc] at this
    rw [conc_patK (r := k) ks 0 0 (fun t ht => by simp [twoOm, ht]), conc_patK (r := r) ks ks.length 0 (fun t ht => by simp only [twoOm]; rw [if_neg (by omega), Nat.add_sub_cancel_left, Nat.zero_add])] at this
    rw [this, keqX_den (k := k) (r := r) ks 0 ks.length 0 (fun t ht => by simp [twoOm, ht]) (fun t ht => by simp only [twoOm]; rw [if_neg (by omega), Nat.add_sub_cancel_left, Nat.zero_add])]
    rfl
  · cases hk
theorem concs_get (ω : Opq) (l : List AV) : (concs ω l).length = l.length := by rw [concs_map, List.length_map]
theorem keyTy_ok {P : Program} {kt : TypeId} {ks : List CT} (hk : keyTy P kt ks = true) (k : Val) : keyOk P kt (.agg (cloR k ks 0)) = true := by
  unfold keyTy at hk
  obtain ⟨hk, _⟩ := and_t hk
  have e : cloR k ks 0 = concs (twoOm ω0 ks.length k k) (patK ks 0) := (conc_patK (r := k) ks 0 0 (fun t ht => by simp [twoOm, ht])).symm
  rw [e]
  unfold keyOk at hk ⊢
  split at hk
  · rename_i h1; cases h1
  · rename_i h1; cases h1
  · rename_i h1; cases h1
  · rename_i fields cs hu hq
    cases hq
    rw [hu]
    simp only
    rw [Array.all_eq_true'] at hk ⊢
    intro f hf
    obtain ⟨h1, h2⟩ := and_t (hk f hf)
    obtain ⟨a, ha⟩ := Option.isSome_iff_exists.1 h1
    rw [partE_conc ha, h2]; rfl
  · cases hk

/-! The entries. -/
def entA (ks vs : List CT) (r : Val) : AV × AV := (.agg (cloR r ks 0), ooaA (cloR r vs ks.length))
theorem ents_of {ks vs : List CT} (h2 : 2 ≤ ks.length) : ∀ {rows : List Val} {m : List MapEntry}, (m.map fun e => (e.key, e.val)) = rows.map (entV ks vs) → ∃ es, ERs β ω es m ∧ (es.map fun e => (e.key, e.val)) = rows.map (entA ks vs)
  | [], [], _ => ⟨[], .nil, rfl⟩
  | [], _ :: _, h => by cases h
  | _ :: _, [], h => by cases h
  | r :: rows, e :: m, h => by
    simp only [List.map_cons, List.cons.injEq] at h
    obtain ⟨es, h3, h4⟩ := ents_of h2 (rows := rows) (m := m) h.2
    rw [entV_val] at h
    obtain ⟨k, v, b⟩ := e
    have hk : k = ooa (valR r ks 0) := congrArg Prod.fst h.1
    have hv : v = ooa (valR r vs ks.length) := congrArg Prod.snd h.1
    refine ⟨⟨.agg (cloR r ks 0), ooaA (cloR r vs ks.length), b⟩ :: es, .cons ?_ ?_ h3, by simp only [List.map_cons, h4]; rfl⟩
    · rw [hk, ooa_agg (by rw [valR_len]; exact h2)]
      exact ⟨_, rfl, cloR_VR r ks 0⟩
    · rw [hv]; exact ooa_VR (cloR_VR r vs ks.length)
theorem find_rows {P : Program} {kt : TypeId} {ks vs : List CT} (hk : keyTy P kt ks = true) (k : Val) : ∀ {rows : List Val} {es : List Ent} (i : Nat), (es.map fun e => (e.key, e.val)) = rows.map (entA ks vs) →
    (rows.findIdx (fun r => keq ks r k) = rows.length ∧ findE P kt (.agg (cloR k ks 0)) es i = some none) ∨
    ∃ e r, rows.findIdx (fun r => keq ks r k) < rows.length ∧ rows[rows.findIdx (fun r => keq ks r k)]? = some r ∧ keq ks r k = true ∧ findE P kt (.agg (cloR k ks 0)) es i = some (some (i + rows.findIdx (fun r => keq ks r k), e)) ∧ e.key = .agg (cloR r ks 0) ∧ e.val = ooaA (cloR r vs ks.length)
  | [], [], i, _ => .inl ⟨rfl, rfl⟩
  | [], _ :: _, i, h => by cases h
  | _ :: _, [], i, h => by cases h
  | r :: rows, e :: es, i, h => by
    simp only [List.map_cons, List.cons.injEq] at h
    have h1 : e.key = .agg (cloR r ks 0) := congrArg Prod.fst h.1
    have h2 : e.val = ooaA (cloR r vs ks.length) := congrArg Prod.snd h.1
    have hq := keyTy_eq hk k r
    rw [List.findIdx_cons]
    cases hc : keq ks r k with
    | true =>
      rw [hc] at hq
      refine .inr ⟨e, r, by simp, by simp, hc, ?_, h1, h2⟩
      simp only [findE, h1, hq, cond_true, Nat.add_zero]
    | false =>
      rw [hc] at hq
      simp only [cond_false]
      rcases find_rows hk k (i + 1) h.2 with ⟨a, b⟩ | ⟨e', r', a1, a2, a3, a4, a5, a6⟩
      · exact .inl ⟨by rw [a]; rfl, by simp only [findE, h1, hq]; exact b⟩
      · refine .inr ⟨e', r', by rw [List.length_cons]; exact Nat.succ_lt_succ a1, by simpa using a2, a3, ?_, a5, a6⟩
        simp only [findE, h1, hq]
        rw [a4]; congr 3; omega
theorem HR.marr {b : Nat} {ks vs : List CT} {l : SX} {L : Loc} (r : HR β ω K w0 h w) (hg : h.get b = some (.marr ks vs l)) (hb : β b = some L) :
    ∃ E c, w.heap[L.blk]? = some (.map E c) ∧ (E.toList.map fun e => (e.key, e.val)) = (dL ω l).map (entV ks vs) := r.blk b _ L hg hb
theorem mIdx_den (ks : List CT) (l : SX) (es : List SX) : dI ω (mIdx ks l es) = ((dL ω l).findIdx (fun r => keq ks r (.vl (dens ω es))) : Nat) := rfl
theorem mHas_den (ks : List CT) (l : SX) (es : List SX) : dB ω (mHas ks l es) = decide ((dL ω l).findIdx (fun r => keq ks r (.vl (dens ω es))) < (dL ω l).length) := by
  show decide (((dL ω l).findIdx (fun r => keq ks r (.vl (dens ω es))) : Int) < ((dL ω l).length : Int)) = _
  simp
theorem ite_den (c a b : SX) : den ω (.op .ite [c, a, b]) = bif dB ω c then den ω a else den ω b := rfl
theorem mVals_has {ks : List CT} {l : SX} {es : List SX} {r : Val} (hh : dB ω (mHas ks l es) = true) (hr : (dL ω l)[(dL ω l).findIdx (fun r => keq ks r (.vl (dens ω es)))]? = some r) : ∀ (vs : List CT) (j : Nat) (zs : List SX), zs.length = vs.length → VRs β ω (mVals ks l es vs j zs) (valR r vs j)
  | [], _, _, _ => by unfold mVals; rfl
  | c :: vs, j, [], h => by simp at h
  | c :: vs, j, z :: zs, h => by
    have ih := mVals_has hh hr vs (j + 1) zs (by simpa using h)
    refine .cons ?_ ih
    have e : den ω (.op .ite [mHas ks l es, .op .lget [l, mIdx ks l es, .ci j], z]) = r.toL.getD j default := by
      rw [ite_den, hh]
      show getV (dL ω l) (dI ω (mIdx ks l es)) (j : Int) = _
      rw [mIdx_den]
      show ((dL ω l).getD _ (.vl [])).toL.getD j default = _
      rw [List.getD_eq_getElem?_getD]
      show (((dL ω l)[(dL ω l).findIdx _]?).getD (.vl [])).toL.getD j default = _
      rw [hr]; rfl
    have := leafE_VR (β := β) (ω := ω) c (.op .ite [mHas ks l es, .op .lget [l, mIdx ks l es, .ci j], z])
    rw [e] at this
    exact this
theorem mVals_not {ks : List CT} {l : SX} {es : List SX} (hh : dB ω (mHas ks l es) = false) : ∀ (vs : List CT) (j i : Nat) (zs : List SX) (q : Val), zs.length = vs.length → (∀ t, t < zs.length → q.toL.getD (i + t) default = den ω (zs.getD t (.cb false))) → VRs β ω (mVals ks l es vs j zs) (valR q vs i)
  | [], _, _, _, _, _, _ => by unfold mVals; rfl
  | c :: vs, j, i, [], q, h, _ => by simp at h
  | c :: vs, j, i, z :: zs, q, h, hq => by
    have ih := mVals_not hh vs (j + 1) (i + 1) zs q (by simpa using h) (fun t ht => by
      have := hq (t + 1) (by simp; omega)
      rw [show i + 1 + t = i + (t + 1) by omega]; simpa using this)
    refine .cons ?_ ih
    have e : den ω (.op .ite [mHas ks l es, .op .lget [l, mIdx ks l es, .ci j], z]) = q.toL.getD i default := by
      rw [ite_den, hh]
      have := hq 0 (by simp)
      simpa using this.symm
    have := leafE_VR (β := β) (ω := ω) c (.op .ite [mHas ks l es, .op .lget [l, mIdx ks l es, .ci j], z])
    rw [e] at this
    exact this
theorem shape_cells {vs : List CT} {z : AV} {v : Value} (hs : shapeOk vs z = true) (hv : VR β ω z v) (hl : v.cells.toList.length = vs.length) : ooa v.cells.toList = v := by
  match vs, hs with
  | [c], hs =>
    have h1 := VR.one hv (show z.one = true from hs)
    have : v.cells = #[v] := by cases v <;> first | rfl | (simp [Value.oneCell'] at h1)
    rw [this]; rfl
  | _ :: _ :: _, hs =>
    cases z with
    | agg cs =>
      obtain ⟨xs, rfl, _⟩ := hv
      show ooa xs.toList = _
      have : 2 ≤ xs.toList.length := by
        have : xs.toList.length = _ := hl
        rw [this]; simp
      rw [ooa_agg this]
    | _ => cases hs
theorem clo_det {c : CT} {x : Val} {v : Value} (h : VR β ω (clo c x) v) : v = cellV c x := by cases c <;> exact h
theorem cloR_det (r : Val) : ∀ (sig : List CT) (j : Nat) {us : List Value}, VRs β ω (cloR r sig j) us → us = valR r sig j
  | [], _, _, h => h
  | c :: cs, j, _, ⟨v, vr, e, h1, h2⟩ => by rw [e, clo_det h1, cloR_det r cs (j + 1) h2]; rfl
theorem ooa_det (r : Val) (sig : List CT) (j : Nat) {v : Value} (h : VR β ω (ooaA (cloR r sig j)) v) : v = ooa (valR r sig j) := by
  match sig, h with
  | [], ⟨xs, e, h⟩ => rw [e]; show Value.agg xs = Value.agg _; congr 1; exact Array.toList_inj.1 h
  | [c], h => exact clo_det h
  | c :: d :: s, ⟨xs, e, h⟩ =>
    rw [e, ooa_agg (by rw [valR_len]; simp), ← cloR_det r (c :: d :: s) j h]
theorem dens_len2 (ω : Opq) : ∀ l : List SX, (dens ω l).length = l.length
  | [] => rfl
  | _ :: r => by simp [dens, dens_len2 ω r]
theorem dens_get (ω : Opq) : ∀ (l : List SX) (t : Nat), t < l.length → (dens ω l).getD t default = den ω (l.getD t (.cb false))
  | [], t, h => by simp at h
  | x :: r, 0, _ => rfl
  | x :: r, t + 1, h => by
    have := dens_get ω r t (by simpa using h)
    simpa [dens] using this
theorem unleafs_len : ∀ {sig : List CT} {vs : List AV} {es : List SX}, unleafs sig vs = some es → es.length = sig.length
  | [], [], es, h => by simp only [unleafs, Option.some.injEq] at h; subst h; rfl
  | [], _ :: _, es, h => by cases h
  | _ :: _, [], es, h => by cases h
  | c :: cs, v :: vs, es, h => by
    unfold unleafs at h
    split at h
    · rename_i e es' h1 h2
      simp only [Option.some.injEq] at h; subst h
      simp [unleafs_len h2]
    · cases h
theorem shape_nt {vs : List CT} {z : AV} (hs : shapeOk vs z = true) : z.nt = true := by
  unfold shapeOk at hs
  split at hs
  · cases hs
  · cases z <;> first | rfl | cases hs
  · cases z <;> first | rfl | cases hs
theorem yLookup_ok (r : HR β ω K w0 h w) (o : OpR β ω ρA ρ) (t : TypeId) (m k : Operand) (ok : Bool) : SOk E β ω K w0 w h (do pure (.value (← Instr.lookup t (ρ m) (ρ k) ok))) (yLookup E.P t h (ρA m) (ρA k) ok) := by
  unfold yLookup
  split
  · rename_i kt et ht
    split
    · rename_i b hm
      split
      · rename_i cs hk
        have rm := o m _ hm
        have rk := o k _ hk
        simp only [VR] at rm
        obtain ⟨L, hL, em⟩ := rm
        obtain ⟨xs, ek, rx⟩ := rk
        unfold yLookV
        split
        · rename_i ks vs l z hg hz
          split
          · rename_i es zs hes hzs
            cases hc : (keyTy E.P kt ks && Nat.ble 2 ks.length && shapeOk vs z) with
            | false => trivial
            | true =>
              obtain ⟨hc, hsh⟩ := and_t hc
              obtain ⟨hkt, h2⟩ := and_t hc
              rw [ble_iff] at h2
              simp only [cond_true]
              obtain ⟨En, c, q1, q2⟩ := r.marr hg hL
              obtain ⟨ents, hE, hmap⟩ := ents_of h2 q2
              have hxs : xs.toList = valR (.vl (dens ω es)) ks 0 := by rw [unleafs_ok hes rx, rowV_val]
              have rk' : VR β ω (.agg (cloR (.vl (dens ω es)) ks 0)) (ρ k) := ⟨xs, ek, by rw [hxs]; exact cloR_VR _ _ _⟩
              have hko := keyTy_ok hkt (.vl (dens ω es))
              rcases find_rows hkt (.vl (dens ω es)) 0 hmap with ⟨a, hf⟩ | ⟨e, row, a1, a2, a3, hf, a5, a6⟩
              · have hhas : dB ω (mHas ks l es) = false := by rw [mHas_den, a]; simp
                obtain ⟨v', hv', hrun⟩ := find_run hko rk' hE hf
                simp only [FR] at hv'; subst hv'
                obtain ⟨zv, z1, z2⟩ := zero_VR hz
                have hzc := unleafs_ok hzs ((z1 β ω).cells (shape_nt hsh))
                rw [rowV_val] at hzc
                have hvr : VR β ω (ooaA (mVals ks l es vs ks.length zs)) zv := by
                  have := ooa_VR (mVals_not (β := β) hhas vs ks.length 0 zs (.vl (dens ω zs)) (unleafs_len hzs) (fun t ht => by rw [Nat.zero_add]; exact dens_get ω zs t ht))
                  rw [← hzc] at this
                  rw [shape_cells hsh (z1 β ω) (by rw [hzc, valR_len])] at this
                  exact this
                refine SVal.pureV r (u := if ok then .tuple #[zv, .bool false] else zv) ?_ ?_
                · cases ok
                  · exact hvr
                  · exact ⟨_, rfl, .cons hvr (.one (by show _ = Value.bool (dB ω (mHas ks l es)); rw [hhas]))⟩
                · simp only [em, Instr.lookup, Sem.run_bind, run_under ht, Result.andThen_ok, Sem.run_pure, run_getMap q1, keyOk_ok hko rk', hrun, z2]
              · have hhas : dB ω (mHas ks l es) = true := by rw [mHas_den]; exact decide_eq_true a1
                obtain ⟨v', hv', hrun⟩ := find_run hko rk' hE hf
                obtain ⟨k2, v2, e1, e2, e3, e4, e5⟩ := hv'
                subst e1
                rw [a6] at e5
                have hv2 := ooa_det row vs ks.length e5
                have hvr : VR β ω (ooaA (mVals ks l es vs ks.length zs)) v2 := by
                  rw [hv2]; exact ooa_VR (mVals_has hhas a2 vs ks.length zs (unleafs_len hzs))
                refine SVal.pureV r (u := if ok then .tuple #[v2, .bool true] else v2) ?_ ?_
                · cases ok
                  · exact hvr
                  · exact ⟨_, rfl, .cons hvr (.one (by show _ = Value.bool (dB ω (mHas ks l es)); rw [hhas]))⟩
                · simp only [em, Instr.lookup, Sem.run_bind, run_under ht, Result.andThen_ok, Sem.run_pure, run_getMap q1, keyOk_ok hko rk', hrun]
          · trivial
        · trivial
      · trivial
    · trivial
  · trivial
theorem valR_congr {r q : Val} : ∀ (sig : List CT) (j i : Nat), (∀ t, t < sig.length → r.toL.getD (j + t) default = q.toL.getD (i + t) default) → valR r sig j = valR q sig i
  | [], _, _, _ => rfl
  | c :: cs, j, i, h => by
    have h0 := h 0 (by simp)
    have ih := valR_congr cs (j + 1) (i + 1) (fun t ht => by
      have := h (t + 1) (by simp; omega)
      rw [show j + 1 + t = j + (t + 1) by omega, show i + 1 + t = i + (t + 1) by omega]; exact this)
    simp only [Nat.add_zero] at h0
    simp only [valR, h0, ih]
theorem valR_keq {r k : Val} : ∀ (sig : List CT) (j : Nat), keqF r k sig j = true → valR r sig j = valR k sig j
  | [], _, _ => rfl
  | c :: cs, j, h => by
    obtain ⟨h1, h2⟩ := and_t h
    have : cellV c (r.toL.getD j default) = cellV c (k.toL.getD j default) := by
      cases c
      · have := of_decide_eq_true h1; show Value.int _ _ = Value.int _ _; rw [this]
      · have := of_decide_eq_true h1; show Value.string _ = Value.string _; rw [this]
      · have := eq_of_beq h1; show Value.bool _ = Value.bool _; rw [this]
    simp only [valR, this, valR_keq cs (j + 1) h2]
theorem sameBits_val (k : Val) : ∀ (sig : List CT) (j : Nat), ((valR k sig j).zip (valR k sig j)).all (fun (x, y) => Instr.sameBits 9999 x y) = true
  | [], _ => rfl
  | c :: cs, j => by
    simp only [valR, List.zip_cons_cons, List.all_cons, Bool.and_eq_true]
    exact ⟨cellEq_ok (β := fun _ => none) (ω := ω0) (a := clo c (k.toL.getD j default)) (b := clo c (k.toL.getD j default)) 9999 (by cases c <;> simp [clo, cellEq, ieqb_eq, beqB_eq]) (clo_VR c _) (clo_VR c _), sameBits_val k cs (j + 1)⟩
theorem dens_app2 (ω : Opq) : ∀ a b : List SX, dens ω (a ++ b) = dens ω a ++ dens ω b
  | [], _ => rfl
  | x :: a, b => by simp [dens, dens_app2 ω a b]
theorem ent_new {ks vs : List CT} {es xs : List SX} {a b : List Value} (h1 : es.length = ks.length) (h2 : xs.length = vs.length) (ha : a = rowV ks (.vl (dens ω es))) (hb : b = rowV vs (.vl (dens ω xs))) : entV ks vs (.vl (dens ω (es ++ xs))) = (ooa a, ooa b) := by
  rw [entV_val, ha, hb, rowV_val, rowV_val, dens_app2]
  have q1 := dens_len2 ω es
  have q2 := dens_len2 ω xs
  congr 2
  · refine valR_congr ks 0 0 fun t ht => ?_
    show (dens ω es ++ dens ω xs).getD (0 + t) default = (dens ω es).getD (0 + t) default
    rw [List.getD_eq_getElem?_getD, List.getD_eq_getElem?_getD, List.getElem?_append_left (by omega)]
  · refine valR_congr vs ks.length 0 fun t ht => ?_
    show (dens ω es ++ dens ω xs).getD (ks.length + t) default = (dens ω xs).getD (0 + t) default
    rw [List.getD_eq_getElem?_getD, List.getD_eq_getElem?_getD, List.getElem?_append_right (by omega)]
    congr 2; omega
theorem shape_ooa {vs : List CT} {x : AV} {v : Value} (hs : shapeOk vs x = true) (hv : VR β ω x v) {b : List Value} (hb : v.cells.toList = b) (hl : b.length = vs.length) : ooa b = v := by
  subst hb
  exact shape_cells hs hv hl
theorem modify_set {α : Type} {l : List α} {i : Nat} {e : α} {f : α → α} (h : l[i]? = some e) : l.modify i f = l.set i (f e) := by
  have hi : i < l.length := by
    cases Nat.lt_or_ge i l.length with
    | inl h1 => exact h1
    | inr h1 => rw [List.getElem?_eq_none h1] at h; cases h
  refine List.ext_getElem? fun j => ?_
  rw [List.getElem?_modify, List.getElem?_set]
  by_cases hj : i = j
  · subst hj; rw [h, if_pos rfl, if_pos hi]; simp
  · simp [hj]
theorem mSet_has {ks : List CT} {l : SX} {es xs : List SX} (h : dB ω (mHas ks l es) = true) : dL ω (mSet ks l es xs) = (dL ω l).set ((dL ω l).findIdx (fun r => keq ks r (.vl (dens ω es)))) (.vl (dens ω (es ++ xs))) := by
  show (den ω (.op .ite _)).toL = _
  rw [ite_den, h]
  show (dL ω l).set (dI ω (mIdx ks l es)).toNat _ = _
  rw [mIdx_den]; rfl
theorem mSet_not {ks : List CT} {l : SX} {es xs : List SX} (h : dB ω (mHas ks l es) = false) : dL ω (mSet ks l es xs) = dL ω l ++ [.vl (dens ω (es ++ xs))] := by
  show (den ω (.op .ite _)).toL = _
  rw [ite_den, h]; rfl
theorem yMapUp_ok (r : HR β ω K w0 h w) (o : OpR β ω ρA ρ) (t : TypeId) (m k x : Operand) : SOk E β ω K w0 w h (do Instr.mapUpdate t (ρ m) (ρ k) (ρ x); pure .skip) (yMapUp E.P t h (ρA m) (ρA k) (ρA x)) := by
  unfold yMapUp
  split
  · rename_i kt et ht
    split
    · rename_i b hm
      split
      · rename_i cs hk
        split
        · rename_i xv hx
          split
          · rename_i zk z hzk hz
            split
            · rename_i ks vs hks hvs
              have rm := o m _ hm
              have rk := o k _ hk
              have rx := o x _ hx
              simp only [VR] at rm
              obtain ⟨L, hL, em⟩ := rm
              have rk0 := rk
              obtain ⟨kx, ek, rkx⟩ := rk
              unfold yMapPut
              split
              · rename_i es xs hes hxs
                cases hc : (keyTy E.P kt ks && Nat.ble 2 ks.length && shapeOk vs xv && Nat.ble h.wm b) with
                | false => trivial
                | true =>
                  obtain ⟨hc, hwm⟩ := and_t hc
                  obtain ⟨hc, hsh⟩ := and_t hc
                  obtain ⟨hkt, h2⟩ := and_t hc
                  rw [ble_iff] at h2 hwm
                  simp only [cond_true]
                  have hkx := unleafs_ok hes rkx
                  have hvx := unleafs_ok hxs (rx.cells (shape_nt hsh))
                  have l1 := unleafs_len hes
                  have l2 := unleafs_len hxs
                  have hent := ent_new (ω := ω) l1 l2 hkx hvx
                  have hkey : ooa kx.toList = ρ k := by
                    rw [ek, ooa_agg (by rw [hkx, rowV_val, valR_len]; exact h2)]
                  have hval : ooa (ρ x).cells.toList = ρ x := shape_ooa hsh rx rfl (by rw [hvx, rowV_val, valR_len])
                  rw [hkey, hval] at hent
                  have hkc : kx.toList = valR (.vl (dens ω es)) ks 0 := by rw [hkx, rowV_val]
                  have rk' : VR β ω (.agg (cloR (.vl (dens ω es)) ks 0)) (ρ k) := ⟨kx, ek, by rw [hkc]; exact cloR_VR _ _ _⟩
                  have hko := keyTy_ok hkt (.vl (dens ω es))
                  split
                  · rename_i ks' vs' l hg
                    cases hq : (sigBeq ks' ks && sigBeq vs' vs) with
                    | false => trivial
                    | true =>
                      obtain ⟨e1, e2⟩ := and_t hq
                      obtain rfl := sigBeq_eq' e1
                      obtain rfl := sigBeq_eq' e2
                      simp only [cond_true]
                      obtain ⟨En, c, q1, q2⟩ := r.marr hg hL
                      obtain ⟨ents, hE, hmap⟩ := ents_of h2 q2
                      refine SVal.ofU ?_
                      rcases find_rows hkt (.vl (dens ω es)) 0 hmap with ⟨a, hf⟩ | ⟨e, row, a1, a2, a3, hf, a5, a6⟩
                      · have hhas : dB ω (mHas ks' l es) = false := by rw [mHas_den, a]; simp
                        obtain ⟨v', hv', hrun⟩ := find_run hko rk' hE hf
                        simp only [FR] at hv'; subst hv'
                        obtain ⟨p1, p2⟩ := r.set1 b _ (.marr ks' vs' (mSet ks' l es xs)) L (.map (En.push ⟨ρ k, ρ x, c⟩) (c + 1)) hg hL hwm
                          ⟨_, _, rfl, by rw [Array.toList_push, List.map_append, q2, mSet_not hhas, List.map_append]; simp only [List.map_cons, List.map_nil, hent]⟩
                        refine ⟨_, ?_, p1, p2⟩
                        simp only [em, Instr.mapUpdate, Sem.run_bind, run_under ht, Result.andThen_ok, run_getMap q1, keyOk_ok hko rk', hrun, run_setMap _ q1]
                      · have hhas : dB ω (mHas ks' l es) = true := by rw [mHas_den]; exact decide_eq_true a1
                        obtain ⟨v', hv', hrun⟩ := find_run hko rk' hE hf
                        obtain ⟨k2, v2, e1, e2, e3, e4, e5⟩ := hv'
                        subst e1
                        rw [Nat.zero_add] at e2 e3
                        have he3 : En[(dL ω l).findIdx (fun r => keq ks' r (.vl (dens ω es)))]? = some ⟨k2, v2, e.born⟩ := by simpa using e3
                        have hk2 : k2 = ρ k := by
                          rw [a5] at e4
                          obtain ⟨ys, ey, ry⟩ := e4
                          have := cloR_det row ks' 0 ry
                          rw [valR_keq ks' 0 a3, ← hkc] at this
                          rw [ey, ek, Array.toList_inj.1 this]
                        have hsb : Instr.sameBits 10000 (ρ k) (ρ k) = true := by
                          rw [ek]
                          show (kx.size == kx.size && (kx.toList.zip kx.toList).all fun (x, y) => Instr.sameBits 9999 x y) = true
                          rw [hkc, sameBits_val]; simp
                        have hst : ∀ w, (Instr.keyThatStays k2 (ρ k)).run E.P w = .ok (ρ k) w := fun w => by simp [Instr.keyThatStays, hk2, hsb]
                        obtain ⟨p1, p2⟩ := r.set1 b _ (.marr ks' vs' (mSet ks' l es xs)) L (.map (En.modify ((dL ω l).findIdx (fun r => keq ks' r (.vl (dens ω es)))) fun x' => { x' with key := ρ k, val := ρ x }) c) hg hL hwm
                          ⟨_, _, rfl, by
                            rw [Array.toList_modify, mSet_has hhas, List.map_set, hent, ← q2]
                            rw [modify_set e3, List.map_set]⟩
                        refine ⟨_, ?_, p1, p2⟩
                        simp only [em, Instr.mapUpdate, Sem.run_bind, run_under ht, Result.andThen_ok, run_getMap q1, keyOk_ok hko rk', hrun, Nat.zero_add, he3, Option.map_some, Option.getD_some, hst, run_setMap _ q1]
                  · rename_i c hg
                    obtain ⟨En, q1, q2⟩ := r.map hg hL
                    have hE : En = #[] := by
                      have : En.toList = [] := by generalize En.toList = z at q2; cases q2; rfl
                      exact Array.toList_inj.1 this
                    subst hE
                    refine SVal.ofU ?_
                    have hf : findE E.P kt (.agg (cloR (.vl (dens ω es)) ks 0)) [] 0 = some none := rfl
                    obtain ⟨v', hv', hrun⟩ := find_run (β := β) (ω := ω) hko rk' (es := []) (m := []) .nil hf
                    simp only [FR] at hv'; subst hv'
                    obtain ⟨p1, p2⟩ := r.set1 b _ (.marr ks vs (.op .row [.op .row (es ++ xs)])) L (.map (#[].push ⟨ρ k, ρ x, c⟩) (c + 1)) hg hL hwm
                      ⟨_, _, rfl, by
                        show [(ρ k, ρ x)] = [entV ks vs (.vl (dens ω (es ++ xs)))]
                        rw [hent]⟩
                    refine ⟨_, ?_, p1, p2⟩
                    simp only [em, Instr.mapUpdate, Sem.run_bind, run_under ht, Result.andThen_ok, run_getMap q1, keyOk_ok hko rk', hrun, run_setMap _ q1]
                  · trivial
              · trivial
            · trivial
          · trivial
        · trivial
      · trivial
    · trivial
  · trivial
end Go.Ev
