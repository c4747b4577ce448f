/- The evaluator: a law's arguments, rows among them, as symbols. -/
import Derived.Test.YthgndhfpfblphabGreatDoorE41
import Derived.Test.YthgndhfpfblphabGreatDoorE32
import Derived.ChangeArms
set_option linter.unusedVariables false
set_option linter.unusedSimpArgs false
namespace Go.Ev
open Go Go.RowKit Go.WideShapes Go.ChangeShapes

def colsF {α : Type} (P : Program) (g : TypeId → Option (List α)) : List Field → Nat → Option (List α)
  | [], _ => some []
  | f :: r, o => match g f.type with
    | some l => bif Nat.beq f.offset o && Nat.beq (P.cellsOf f.type) l.length then (match colsF P g r (o + l.length) with
        | some l2 => some (l ++ l2)
        | none => none) else none
    | none => none
/-- The columns of a type's cells. -/
def colsT (P : Program) : Nat → TypeId → Option (List CT)
  | 0, _ => none
  | n + 1, t => match P.underlying t with
    | some .bool => some [.bool]
    | some (.int k) => some [.int k]
    | some .string => some [.str]
    | some (.struct fs) => match colsF P (colsT P n) fs.toList 0 with
      | some l => bif Nat.beq (P.cellsOf t) l.length then some l else none
      | none => none
    | _ => none
def fitC : CT → Value → Prop
  | .int k, v => ∃ n, v = .int k n ∧ k.min ≤ n ∧ n ≤ k.max
  | .str, v => ∃ s, v = .string s
  | .bool, v => ∃ b, v = .bool b
def fitsG {α : Type} (fit : α → Value → Prop) : List α → List Value → Prop
  | [], vs => vs = []
  | c :: s, vs => ∃ v r, vs = v :: r ∧ fit c v ∧ fitsG fit s r
def fits : List CT → List Value → Prop := fitsG fitC
theorem fitsG_length {α : Type} {fit : α → Value → Prop} : ∀ {s : List α} {vs : List Value}, fitsG fit s vs → vs.length = s.length
  | [], _, h => by rw [h]; rfl
  | _ :: s, _, ⟨v, r, e, _, h⟩ => by rw [e]; simp [fitsG_length h]
theorem fitsG_app {α : Type} {fit : α → Value → Prop} : ∀ {s t : List α} {vs us : List Value}, fitsG fit s vs → fitsG fit t us → fitsG fit (s ++ t) (vs ++ us)
  | [], _, _, _, h, k => by rw [h]; exact k
  | _ :: s, _, _, _, ⟨v, r, e, h1, h⟩, k => ⟨v, _, by rw [e]; rfl, h1, fitsG_app h k⟩
theorem fits_length {s : List CT} {vs : List Value} (h : fits s vs) : vs.length = s.length := fitsG_length h

section
variable {H : Type} {enc : TypeId × Value → H} {P : Program} {w : World} {base : Nat} {sp : Nat → Bool} {hd : Bool}

theorem mapM_all {α β : Type} {g : α → Option β} : ∀ {l : List α} {r : List β}, l.mapM g = some r → ∀ a ∈ l, ∃ b ∈ r, g a = some b
  | [], _, _, _, h => by cases h
  | x :: l, r, h, a, ha => by
    rw [List.mapM_cons] at h
    simp only [Option.bind_eq_bind, Option.bind_eq_some_iff, Option.pure_def, Option.some.injEq] at h
    obtain ⟨y, hy, ys, hys, rfl⟩ := h
    rcases List.mem_cons.1 ha with rfl | ha
    · exact ⟨y, List.mem_cons_self .., hy⟩
    · obtain ⟨b, hb, e⟩ := mapM_all hys a ha
      exact ⟨b, List.mem_cons_of_mem _ hb, e⟩
theorem colsF_fits {α : Type} {fit : α → Value → Prop} {g : TypeId → Option (List α)} {cs : List Value} {Q : TypeId → List Value → Prop} (hg : ∀ t l vs, g t = some l → Q t vs → fitsG fit l vs) : ∀ {fs : List Field} {o : Nat} {l : List α}, colsF P g fs o = some l → (∀ f ∈ fs, Q f.type ((cs.drop f.offset).take (P.cellsOf f.type))) →
    fitsG fit l ((cs.drop o).take l.length)
  | [], o, l, h, _ => by
    simp only [colsF, Option.some.injEq] at h
    subst h; simp [fitsG]
  | f :: r, o, l, h, hq => by
    simp only [colsF] at h
    split at h
    · rename_i l1 h1
      cases hc : (Nat.beq f.offset o && Nat.beq (P.cellsOf f.type) l1.length) with
      | false => rw [hc] at h; cases h
      | true =>
        rw [hc] at h
        simp only [cond_true] at h
        obtain ⟨c1, c2⟩ := and_t hc
        have c1 := beq_iff'.1 c1
        have c2 := beq_iff'.1 c2
        split at h
        · rename_i l2 h2
          simp only [Option.some.injEq] at h
          subst h
          have a := hg _ _ _ h1 (hq f (List.mem_cons_self ..))
          rw [c1, c2] at a
          have b := colsF_fits hg h2 (fun f hf => hq f (List.mem_cons_of_mem _ hf))
          have := fitsG_app a b
          rw [List.length_append, List.take_add, List.drop_drop]
          exact this
        · cases h
    · cases h
theorem trod_cols : ∀ {m : Nat} {n : Nat} {t : TypeId} {cs : List Value} {x : DataW H × List MemPlace} {l : List CT}, colsT P m t = some l → DataW.trod enc P w base sp hd n t cs = some x → fits l cs
  | 0, _, _, _, _, _, h, _ => by cases h
  | m + 1, 0, _, _, _, _, _, h => by simp [DataW.trod] at h
  | m + 1, n + 1, t, cs, x, l, hc, ht => by
    unfold DataW.trod at ht
    simp only [colsT] at hc
    cases hu : P.underlying t with
    | none => rw [hu] at hc; cases hc
    | some d =>
      rw [hu] at hc ht
      cases d with
      | bool =>
        simp only [Option.some.injEq] at hc; subst hc
        split at ht <;> simp_all [fits, fitsG, fitC]
      | int k =>
        simp only [Option.some.injEq] at hc; subst hc
        split at ht <;> simp_all [fits, fitsG, fitC, Lit.wf]
      | string =>
        simp only [Option.some.injEq] at hc; subst hc
        split at ht <;> simp_all [fits, fitsG, fitC]
      | struct fs =>
        simp only at hc
        split at hc
        · rename_i l1 h1
          cases hb : Nat.beq (P.cellsOf t) l1.length with
          | false => rw [hb] at hc; cases hc
          | true =>
            rw [hb] at hc
            simp only [cond_true, Option.some.injEq] at hc; subst hc
            have hb := beq_iff'.1 hb
            split at ht <;> simp_all
            rename_i heq
            subst heq
            obtain ⟨hlen, ys, hys, _⟩ := ht
            have key : ∀ cs : List Value, cs.length = l1.length → (fs.toList.mapM fun f => DataW.trod enc P w base sp hd n f.type ((cs.drop f.offset).take (P.cellsOf f.type))) = some ys → fits l1 cs := fun cs hl hy => by
              have := colsF_fits (cs := cs) (Q := fun t vs => ∃ x, DataW.trod enc P w base sp hd n t vs = some x) (fun t l vs hl ⟨x, hx⟩ => trod_cols hl hx) h1 (fun f hf => by
                obtain ⟨b, _, e⟩ := mapM_all hy f hf
                exact ⟨b, e⟩)
              rw [List.drop_zero, ← hl, List.take_length] at this
              exact this
            exact key _ hlen (by simpa using hys)
        · cases hc
      | _ => cases hc

inductive Sh where
  | col (c : CT)
  | sl (sig : List CT)
/-- The shapes of an argument's cells. -/
def shT (P : Program) : Nat → TypeId → Option (List Sh)
  | 0, _ => none
  | n + 1, t => match P.underlying t with
    | some .bool => some [.col .bool]
    | some (.int k) => some [.col (.int k)]
    | some .string => some [.col .str]
    | some (.slice e) => match colsT P n e with
      | some l => bif Nat.beq (P.cellsOf e) l.length && Nat.blt 0 l.length then some [.sl l] else none
      | none => none
    | some (.struct fs) => match colsF P (shT P n) fs.toList 0 with
      | some l => bif Nat.beq (P.cellsOf t) l.length then some l else none
      | none => none
    | _ => none
def fitS (w : World) : Sh → Value → Prop
  | .col c, v => fitC c v
  | .sl sig, v => v = .slice none 0 0 ∨ ∃ a len cap, v = .slice (some a) len cap ∧ 0 < sig.length ∧ len ≤ cap ∧ (∀ i, i < len → ∃ vs, w.cells? 0 (a.add (i * sig.length)) sig.length = some vs ∧ fits sig vs) ∧ ∀ j, j < len * sig.length → w.frozen? ⟨a.block, a.off + j, none⟩ = false
def Thaw (w : World) (ps : List MemPlace) : Prop := ∀ b off, MemPlace.cell b off ∈ ps → w.frozen? ⟨b, off, none⟩ = false
theorem trod_sh : ∀ {m : Nat} {n : Nat} {t : TypeId} {cs : List Value} {x : DataW H × List MemPlace} {l : List Sh}, shT P m t = some l → DataW.trod enc P w 0 sp hd n t cs = some x → Thaw w x.2 → fitsG (fitS w) l cs
  | 0, _, _, _, _, _, h, _, _ => by cases h
  | m + 1, 0, _, _, _, _, _, h, _ => by simp [DataW.trod] at h
  | m + 1, n + 1, t, cs, x, l, hc, ht, hw => by
    simp only [shT] at hc
    cases hu : P.underlying t with
    | none => rw [hu] at hc; cases hc
    | some d =>
      have ht0 := ht
      unfold DataW.trod at ht
      rw [hu] at hc ht
      cases d with
      | bool =>
        simp only [Option.some.injEq] at hc; subst hc
        split at ht <;> simp_all [fitsG, fitS, fitC]
      | int k =>
        simp only [Option.some.injEq] at hc; subst hc
        split at ht <;> simp_all [fitsG, fitS, fitC, Lit.wf]
      | string =>
        simp only [Option.some.injEq] at hc; subst hc
        split at ht <;> simp_all [fitsG, fitS, fitC]
      | slice e =>
        simp only at hc
        split at hc
        · rename_i l1 h1
          cases hb : (Nat.beq (P.cellsOf e) l1.length && Nat.blt 0 l1.length) with
          | false => rw [hb] at hc; cases hc
          | true =>
            rw [hb] at hc
            simp only [cond_true, Option.some.injEq] at hc; subst hc
            obtain ⟨hb, hb0⟩ := and_t hb
            rw [blt_iff] at hb0
            have hb := beq_iff'.1 hb
            rcases DataW.trod_slice hu ht0 with ⟨rfl, _⟩ | ⟨a, len, cap, elems, rest, n', hn, rfl, rfl, _, hlc, _, hel, hi, _⟩
            · exact ⟨_, _, rfl, .inl rfl, rfl⟩
            · refine ⟨_, _, rfl, .inr ⟨a, len, cap, rfl, hb0, hlc, fun i hlt => ?_, fun j hj => ?_⟩, rfl⟩
              · have := hi i hlt
                rw [List.getElem?_eq_getElem (by omega), Option.bind_eq_some_iff] at this
                obtain ⟨vs, h2, h3⟩ := this
                rw [hb] at h2
                exact ⟨vs, h2, trod_cols h1 h3⟩
              · apply hw
                simp only [List.mem_append, MemPlace.row, List.mem_map, List.mem_range]
                refine .inl ⟨j, ?_, rfl⟩
                rw [hb, hel, Nat.add_mul]; omega
        · cases hc
      | struct fs =>
        simp only at hc
        split at hc
        · rename_i l1 h1
          cases hb : Nat.beq (P.cellsOf t) l1.length with
          | false => rw [hb] at hc; cases hc
          | true =>
            rw [hb] at hc
            simp only [cond_true, Option.some.injEq] at hc; subst hc
            have hb := beq_iff'.1 hb
            split at ht <;> simp_all
            rename_i heq
            subst heq
            obtain ⟨hlen, ys, hys, hx⟩ := ht
            have hw2 : ∀ y ∈ ys, Thaw w y.2 := fun y hy b off hm => hw b off (by
              rw [← hx]
              exact List.mem_flatMap.2 ⟨y, hy, hm⟩)
            have key : ∀ cs : List Value, cs.length = l1.length → (fs.toList.mapM fun f => DataW.trod enc P w 0 sp hd n f.type ((cs.drop f.offset).take (P.cellsOf f.type))) = some ys → fitsG (fitS w) l1 cs := fun cs hl hy => by
              have := colsF_fits (cs := cs) (fit := fitS w) (Q := fun t vs => ∃ x, DataW.trod enc P w 0 sp hd n t vs = some x ∧ Thaw w x.2) (fun t l vs hl ⟨x, hx, hz⟩ => trod_sh hl hx hz) h1 (fun f hf => by
                obtain ⟨b, hb, e⟩ := mapM_all hy f hf
                exact ⟨b, e, hw2 b hb⟩)
              rw [List.drop_zero, ← hl, List.take_length] at this
              exact this
            exact key _ hlen (by simpa using hys)
        · cases hc
      | _ => cases hc

/-! ### The starting state -/
def rowsV (w : World) (sz : Nat) (a : Addr) (len : Nat) : List Val := (List.range len).map fun i => .vl (((w.cells? 0 (a.add (i * sz)) sz).getD []).map valV)
def symV (w : World) (s : Sh) (v : Value) : Val := match s, v with
  | .col _, v => valV v
  | .sl sig, .slice (some a) len _ => .vl (rowsV w sig.length a len)
  | _, _ => .vl []
def locV (sig : List CT) (v : Value) : Option Loc := match v with
  | .slice (some a) len _ => if 0 < len then some ⟨a.block, a.off, len * sig.length⟩ else none
  | _ => none
def nSl : Sh → Nat
  | .sl _ => 1
  | .col _ => 0
def lawAV (n b : Nat) : Sh → AV
  | .col (.int k) => .oint k (.va n)
  | .col .str => .ostr (.va n)
  | .col .bool => .obool (.va n)
  | .sl sig => .osl b (.ci 0) (.op .llen [.va n]) sig.length
def lawAVs : List Sh → Nat → Nat → List AV
  | [], _, _ => []
  | s :: r, n, b => lawAV n b s :: lawAVs r (n + 1) (b + nSl s)
def lawBs : List Sh → Nat → List Blk
  | [], _ => []
  | .sl sig :: r, n => .arr anyE sig (.va n) :: lawBs r (n + 1)
  | .col _ :: r, n => lawBs r (n + 1)
def lawLs : List Sh → List Value → List (Option Loc)
  | .sl sig :: r, v :: vs => locV sig v :: lawLs r vs
  | .col _ :: r, _ :: vs => lawLs r vs
  | _, _ => []

theorem cells_at {a : Addr} {n : Nat} {vs : List Value} (h : w.cells? 0 a n = some vs) : vs.length = n ∧ ∀ j, j < n → w.cell? (a.add j) = vs[j]? := by
  unfold World.cells? at h
  rw [if_pos (Nat.zero_le _)] at h
  have : ∀ (l : List Nat) (vs : List Value), (l.mapM fun i => w.cell? (a.add i)) = some vs → vs.length = l.length ∧ ∀ j (hj : j < l.length), w.cell? (a.add l[j]) = vs[j]? := by
    intro l
    induction l with
    | nil => intro vs h; simp at h; subst h; exact ⟨rfl, fun j hj => by simp at hj⟩
    | cons x l ih =>
      intro vs h
      rw [List.mapM_cons] at h
      simp only [Option.bind_eq_bind, Option.bind_eq_some_iff, Option.pure_def, Option.some.injEq] at h
      obtain ⟨y, hy, ys, hys, rfl⟩ := h
      obtain ⟨h1, h2⟩ := ih ys hys
      refine ⟨by simp [h1], fun j hj => ?_⟩
      cases j with
      | zero => simpa using hy
      | succ j => simpa using h2 j (by simpa using hj)
  obtain ⟨h1, h2⟩ := this _ _ h
  rw [List.length_range] at h1
  exact ⟨h1, fun j hj => by
    have := h2 j (by rw [List.length_range]; exact hj)
    rwa [List.getElem_range] at this⟩
theorem cell_heap {a : Addr} {k : Nat} {v : Value} (h : w.cell? (a.add k) = some v) : ∃ C e lo hi, w.heap[a.block]? = some (.cells C e (lo, hi)) ∧ C[a.off + k]? = some v ∧ (k = 0 → a.spot = none) := by
  have hb : (a.add k).block = a.block := by unfold Addr.add; split <;> rfl
  have ho : (a.add k).off = a.off + k := by unfold Addr.add; split <;> simp_all
  unfold World.cell? at h
  rw [hb, ho] at h
  split at h
  · rename_i C e fr hh
    split at h
    · cases h
    · rename_i hs
      refine ⟨C, e, fr.1, fr.2, hh, h, fun hk => ?_⟩
      subst hk
      simpa [Addr.add] using hs
  · cases h
theorem fit_at : ∀ {sig : List CT} {vs : List Value} {j : Nat}, fits sig vs → j < sig.length → ∃ u, vs[j]? = some u ∧ cellV (sig.getD j .bool) (valV u) = u
  | c :: s, vs, 0, ⟨v, r, e, h, _⟩, _ => by
    refine ⟨v, by rw [e]; rfl, ?_⟩
    cases c with
    | int k => obtain ⟨n, rfl, _⟩ := h; rfl
    | str => obtain ⟨n, rfl⟩ := h; simp [cellV, valV, Val.toS]
    | bool => obtain ⟨n, rfl⟩ := h; rfl
  | c :: s, vs, j + 1, ⟨v, r, e, _, h⟩, hj => by
    obtain ⟨u, h1, h2⟩ := fit_at (sig := s) (vs := r) (j := j) h (by simpa using hj)
    exact ⟨u, by rw [e]; simpa using h1, by simpa using h2⟩
  | [], _, _, _, hj => by simp at hj
theorem law_BR {β : Bij} {ω : Opq} {sig : List CT} {a : Addr} {len n : Nat} (h0 : 0 < len) (hs : 0 < sig.length) (hc : ∀ i, i < len → ∃ vs, w.cells? 0 (a.add (i * sig.length)) sig.length = some vs ∧ fits sig vs)
    (hf : ∀ j, j < len * sig.length → w.frozen? ⟨a.block, a.off + j, none⟩ = false) (hw : ω.w n = .vl (rowsV w sig.length a len)) : BR β ω ⟨a.block, a.off, len * sig.length⟩ w.heap[a.block]? (.arr anyE sig (.va n)) := by
  have hcell : ∀ i j, i < len → j < sig.length → ∃ u C e lo hi, w.heap[a.block]? = some (.cells C e (lo, hi)) ∧ C[a.off + (i * sig.length + j)]? = some u ∧ cellV (sig.getD j .bool) ((((rowsV w sig.length a len).getD i (.vl [])).toL).getD j default) = u := by
    intro i j hi hj
    obtain ⟨vs, h1, h2⟩ := hc i hi
    obtain ⟨h3, h4⟩ := cells_at h1
    obtain ⟨u, h5, h6⟩ := fit_at h2 hj
    have h7 := h4 j hj
    rw [h5] at h7
    have hadd : (a.add (i * sig.length)).add j = a.add (i * sig.length + j) ∨ True := .inr trivial
    obtain ⟨C, e, lo, hi', h8, h9, _⟩ := cell_heap h7
    have hb : (a.add (i * sig.length)).block = a.block := by unfold Addr.add; split <;> rfl
    have ho : (a.add (i * sig.length)).off = a.off + i * sig.length := by unfold Addr.add; split <;> simp_all
    rw [hb] at h8
    rw [ho, Nat.add_assoc] at h9
    refine ⟨u, C, e, lo, hi', h8, h9, ?_⟩
    rw [← h6]
    congr 1
    simp only [rowsV, List.getD_eq_getElem?_getD, List.getElem?_map, List.getElem?_range hi, Option.map_some, Option.getD_some, Val.toL, h1, h5]
  obtain ⟨_, C, e, lo, hi, hh, _, _⟩ := hcell 0 0 h0 hs
  have hC : ∀ i j, i < len → j < sig.length → ∃ u, C[a.off + (i * sig.length + j)]? = some u ∧ cellV (sig.getD j .bool) ((((rowsV w sig.length a len).getD i (.vl [])).toL).getD j default) = u := by
    intro i j h1 h2
    obtain ⟨u, C', e', lo', hi', g1, g2, g3⟩ := hcell i j h1 h2
    rw [hh] at g1
    simp only [Option.some.injEq, Obj.cells.injEq, Prod.mk.injEq] at g1
    obtain ⟨rfl, rfl, rfl, rfl⟩ := g1
    exact ⟨u, g2, g3⟩
  have hl : (dL ω (.va n)) = rowsV w sig.length a len := by show (ω.w n).toL = _; rw [hw]; rfl
  have hlen : (rowsV w sig.length a len).length = len := by simp [rowsV]
  refine ⟨C, e, lo, hi, hh, .inr rfl, ?_, by rw [hl, hlen]; exact Nat.le_refl _, fun i v hi' => ?_, fun i hi' => ?_⟩
  · obtain ⟨u, h1, _⟩ := hC (len - 1) (sig.length - 1) (by omega) (by omega)
    have := (Array.getElem?_eq_some_iff.1 h1).1
    have e1 : (len - 1) * sig.length + sig.length = len * sig.length := by rw [← Nat.succ_mul]; congr 1; omega
    show a.off + len * sig.length ≤ C.size
    omega
  · rw [hl] at hi'
    have hlt : i < len * sig.length := by
      have := (List.getElem?_eq_some_iff.1 hi').1
      rw [flatV_length, hlen] at this; exact this
    have hq : i / sig.length < len := Nat.div_lt_of_lt_mul (by rw [Nat.mul_comm]; exact hlt)
    have hr : i % sig.length < sig.length := Nat.mod_lt _ hs
    have hi2 : i = i / sig.length * sig.length + i % sig.length := by rw [Nat.mul_comm]; exact (Nat.div_add_mod i sig.length).symm
    obtain ⟨u, h1, h2⟩ := hC _ _ hq hr
    rw [hi2, flatV_get hr (by rw [hlen]; exact hq), h2, Option.some.injEq] at hi'
    show C[a.off + i]? = some v
    rw [hi2, h1, hi']
  · have := hf i hi'
    unfold World.frozen? at this
    rw [hh] at this
    simp only [Bool.and_eq_false_iff, decide_eq_false_iff_not] at this
    show ¬ (lo ≤ a.off + i ∧ a.off + i < hi)
    omega

theorem fitsG_at {α : Type} {fit : α → Value → Prop} : ∀ {s : List α} {vs : List Value} {i : Nat} {a : α} {v : Value}, fitsG fit s vs → s[i]? = some a → vs[i]? = some v → fit a v
  | _ :: _, _, 0, _, _, ⟨v, r, rfl, h, _⟩, h1, h2 => by
    simp only [List.getElem?_cons_zero, Option.some.injEq] at h1 h2
    subst h1; subst h2; exact h
  | _ :: _, _, i + 1, _, _, ⟨v, r, rfl, _, h⟩, h1, h2 => fitsG_at (i := i) h (by simpa using h1) (by simpa using h2)
  | [], _, _, _, _, _, h1, _ => by simp at h1
theorem law_blks : ∀ {L : List Sh} {vs : List Value} {n : Nat}, fitsG (fitS w) L vs → (lawLs L vs).length = (lawBs L n).length ∧ ∀ (j : Nat) (x : Blk), (lawBs L n)[j]? = some x → ∃ sig m v, x = .arr anyE sig (.va (n + m)) ∧ L[m]? = some (.sl sig) ∧ vs[m]? = some v ∧ (lawLs L vs)[j]? = some (locV sig v)
  | [], vs, n, h => ⟨by simp [lawLs, lawBs], fun j x hx => by simp [lawBs] at hx⟩
  | .col c :: r, _, n, ⟨v, vs, rfl, _, h⟩ => by
    obtain ⟨h1, h2⟩ := law_blks (n := n + 1) h
    refine ⟨h1, fun j x hx => ?_⟩
    obtain ⟨sig, m, v', e1, e2, e3, e4⟩ := h2 j x hx
    exact ⟨sig, m + 1, v', by rw [e1, Nat.add_assoc, Nat.add_comm 1 m], by simpa using e2, by simpa using e3, e4⟩
  | .sl sig :: r, _, n, ⟨v, vs, rfl, _, h⟩ => by
    obtain ⟨h1, h2⟩ := law_blks (n := n + 1) h
    refine ⟨by simp only [lawLs, lawBs, List.length_cons, h1], fun j x hx => ?_⟩
    cases j with
    | zero =>
      simp only [lawBs, List.getElem?_cons_zero, Option.some.injEq] at hx
      exact ⟨sig, 0, v, hx.symm, rfl, rfl, rfl⟩
    | succ j =>
      obtain ⟨sig', m, v', e1, e2, e3, e4⟩ := h2 j x (by simpa [lawBs] using hx)
      exact ⟨sig', m + 1, v', by rw [e1, Nat.add_assoc, Nat.add_comm 1 m], by simpa using e2, by simpa using e3, by simpa [lawLs] using e4⟩
theorem locV_some {sig : List CT} {v : Value} {M : Loc} (e : locV sig v = some M) : ∃ a len cap, v = .slice (some a) len cap ∧ 0 < len ∧ M = ⟨a.block, a.off, len * sig.length⟩ := by
  unfold locV at e
  split at e
  · rename_i a len cap
    split at e
    · rename_i h
      simp only [Option.some.injEq] at e
      exact ⟨a, len, cap, rfl, h, e.symm⟩
    · cases e
  · cases e
theorem law_HR {β : Bij} {ω : Opq} {L : List Sh} {vs : List Value} (hfit : fitsG (fitS w) L vs) (hω : ∀ (i : Nat) s v, L[i]? = some s → vs[i]? = some v → ω.w i = symV w s v) (hβ : ∀ b, β b = ((lawLs L vs)[b]?).getD none)
    {h : Heap} (hn : h.next = (lawBs L 0).length) (hwm : h.wm = (lawBs L 0).length) (hg : ∀ b, h.get b = (lawBs L 0)[b]?) : HR β ω (· < w.heap.size) w h w := by
  obtain ⟨hlen, hat⟩ := law_blks (n := 0) hfit
  have hlt : ∀ b x, h.get b = some x → b < (lawBs L 0).length := fun b x hx => by
    rw [hg] at hx; exact (List.getElem?_eq_some_iff.1 hx).1
  have harr : ∀ b x, h.get b = some x → x.isArr = true := fun b x hx => by
    rw [hg] at hx
    obtain ⟨sig, m, v, e, _⟩ := hat b x hx
    rw [e]; rfl
  have hloc : ∀ b M, β b = some M → ∃ sig m a len cap, L[m]? = some (.sl sig) ∧ vs[m]? = some (.slice (some a) len cap) ∧ 0 < len ∧ M = ⟨a.block, a.off, len * sig.length⟩ ∧ (lawBs L 0)[b]? = some (.arr anyE sig (.va m)) := by
    intro b M hb
    rw [hβ] at hb
    have hb' : b < (lawBs L 0).length := by
      rcases Nat.lt_or_ge b (lawLs L vs).length with hh | hh
      · omega
      · rw [List.getElem?_eq_none hh] at hb; cases hb
    obtain ⟨sig, m, v, e1, e2, e3, e4⟩ := hat b _ (List.getElem?_eq_getElem hb')
    rw [e4, Option.getD_some] at hb
    obtain ⟨a, len, cap, rfl, h0, rfl⟩ := locV_some hb
    exact ⟨sig, m, a, len, cap, e2, e3, h0, rfl, by rw [List.getElem?_eq_getElem hb', e1, Nat.zero_add]⟩
  have hbr : ∀ b x M, h.get b = some x → β b = some M → BR β ω M w.heap[M.blk]? x := by
    intro b x M hx hb
    obtain ⟨sig, m, a, len, cap, h1, h2, h0, rfl, h4⟩ := hloc b M hb
    rw [hg, h4, Option.some.injEq] at hx
    subst hx
    have hf := fitsG_at hfit h1 h2
    rcases hf with hf | ⟨a', len', cap', hf, hs, _, hc, hz⟩
    · cases hf
    · simp only [Value.slice.injEq, Option.some.injEq] at hf
      obtain ⟨rfl, rfl, rfl⟩ := hf
      exact law_BR h0 hs hc hz (hω m _ _ h1 h2)
  refine ⟨hbr, fun b b' x x' M M' h1 h2 _ _ _ h5 => ?_, fun b hb => ?_, fun b hb => ?_, fun b M hb => ?_, fun i hi => hi, fun i _ => rfl, fun b x M h1 h2 _ => ?_, Nat.le_refl _, rfl, rfl, rfl, Nat.le_refl _⟩
  · have q1 := hlt _ _ h1
    have q2 := hlt _ _ h2
    rw [hwm] at h5
    rcases h5 with h5 | h5 | h5 | h5
    · omega
    · omega
    · rw [harr _ _ h1] at h5; cases h5
    · rw [harr _ _ h2] at h5; cases h5
  · rw [hn] at hb
    rw [hβ, List.getElem?_eq_none (by omega)]; rfl
  · rw [hn] at hb
    rw [hg, List.getElem?_eq_none hb]
  · obtain ⟨sig, m, a, len, cap, h1, h2, h0, rfl, h4⟩ := hloc b M hb
    obtain ⟨C, e', lo, hi, hh, _⟩ := hbr b _ _ (by rw [hg]; exact h4) hb
    exact (Array.getElem?_eq_some_iff.1 hh).1
  · have := hlt _ _ h1
    rw [hwm] at h2; omega
theorem law_VRs {β : Bij} {ω : Opq} : ∀ {L : List Sh} {vs : List Value} {n b : Nat}, fitsG (fitS w) L vs → (∀ (i : Nat) s v, L[i]? = some s → vs[i]? = some v → ω.w (n + i) = symV w s v) → (∀ (j : Nat) x, (lawLs L vs)[j]? = some x → β (b + j) = x) → VRs β ω (lawAVs L n b) vs
  | [], _, _, _, h, _, _ => by rw [h]; rfl
  | s :: r, _, n, b, ⟨v, vs, rfl, hf, h⟩, hω, hβ => by
    have hv := hω 0 s v rfl rfl
    rw [Nat.add_zero] at hv
    have hrest : VRs β ω (lawAVs r (n + 1) (b + nSl s)) vs := by
      refine law_VRs h (fun i s' v' h1 h2 => ?_) (fun j x hx => ?_)
      · have := hω (i + 1) s' v' (by simpa using h1) (by simpa using h2)
        rw [← this]; congr 1; omega
      · cases s with
        | col c => exact hβ j x hx
        | sl sig =>
          have := hβ (j + 1) x (by simpa [lawLs] using hx)
          rw [← this]; congr 1; simp only [nSl]; omega
    refine ⟨v, vs, rfl, ?_, hrest⟩
    cases s with
    | col c =>
      cases c with
      | int k => obtain ⟨m, rfl, _⟩ := hf; show Value.int k m = .int k (ω.w n).toI; rw [hv]; rfl
      | str => obtain ⟨m, rfl⟩ := hf; show Value.string m = .string ⟨(ω.w n).toS.toArray⟩; rw [hv]; simp [symV, valV, Val.toS]
      | bool => obtain ⟨m, rfl⟩ := hf; show Value.bool m = .bool (ω.w n).toB; rw [hv]; rfl
    | sl sig =>
      rcases hf with rfl | ⟨a, len, cap, rfl, hs, hlc, hc, hz⟩
      · refine .inr ⟨none, 0, rfl, fun _ => rfl, ?_⟩
        show (((ω.w n).toL.length : Nat) : Int) = 0
        rw [hv]; rfl
      · have hd : dI ω (.op .llen [.va n]) = (len : Int) := by
          show (((ω.w n).toL.length : Nat) : Int) = len
          rw [hv]; simp [symV, rowsV, Val.toL]
        by_cases h0 : 0 < len
        · refine .inl ⟨⟨a.block, a.off, len * sig.length⟩, cap, a, ?_, by rw [hd]; rfl, by rw [hd]; exact hlc, fun _ => ?_⟩
          · have := hβ 0 (some ⟨a.block, a.off, len * sig.length⟩) (by simp [lawLs, locV, h0])
            exact this
          · obtain ⟨us, h1, h2⟩ := hc 0 h0
            obtain ⟨h3, h4⟩ := cells_at h1
            have h5 := h4 0 hs
            rw [List.getElem?_eq_getElem (by omega)] at h5
            have e0 : (a.add (0 * sig.length)).add 0 = a.add 0 := by simp [Addr.add]
            rw [e0] at h5
            obtain ⟨_, _, _, _, _, _, h6⟩ := cell_heap h5
            show a = ⟨a.block, a.off + (dI ω (.ci 0)).toNat * sig.length, none⟩
            have : (dI ω (.ci 0)).toNat = 0 := rfl
            rw [this, Nat.zero_mul, Nat.add_zero, ← h6 rfl]
        · obtain rfl : len = 0 := by omega
          exact .inr ⟨some a, cap, rfl, fun hh => (by cases hh), hd⟩

def lawOpq (F : Nat → List Val → Val) (P : Program) (w : World) (L : List Sh) (cells : List Value) : Opq := ⟨fun _ => .bool false, fun n => symV w (L.getD n (.col .bool)) (cells.getD n (.bool false)), F, fun _ => rfl, fun t => fixT P t⟩
theorem sym_min {L : List Sh} {cells : List Value} {i : Nat} {k : IntKind} (hfit : fitsG (fitS w) L cells) (h : L[i]? = some (.col (.int k))) : k.min ≤ (symV w (L.getD i (.col .bool)) (cells.getD i (.bool false))).toI := by
  have hl := fitsG_length hfit
  have hi := (List.getElem?_eq_some_iff.1 h).1
  obtain ⟨n, e, h1, _⟩ := fitsG_at hfit h (List.getElem?_eq_getElem (show i < cells.length by omega))
  rw [List.getD_eq_getElem?_getD, h, List.getD_eq_getElem?_getD, List.getElem?_eq_getElem (show i < cells.length by omega), Option.getD_some, Option.getD_some, e]
  exact h1
def resNeed (r : Res) : Option (SX × AV) := match r with
  | .val v _ => some (.cb true, v)
  | .need e v _ => some (e, v)
  | _ => none
theorem resNeed_at {r : Res} {e : SX} {v : AV} {ω : Opq} (h : resNeed r = some (e, v)) (hd : dB ω e = true) : ∃ h', r = .val v h' ∨ ∃ x, r = .need x v h' ∧ dB ω x = true := by
  unfold resNeed at h
  split at h
  · simp only [Option.some.injEq, Prod.mk.injEq] at h
    obtain ⟨_, rfl⟩ := h
    exact ⟨_, .inl rfl⟩
  · simp only [Option.some.injEq, Prod.mk.injEq] at h
    obtain ⟨rfl, rfl⟩ := h
    exact ⟨_, .inr ⟨_, rfl, hd⟩⟩
  · cases h
/-- A law told as a contract: it answers true. -/
theorem law_run {E : Env} {F : Nat → List Val → Val} {x : HC} (hx : HcOk E (OmF F E.P) x) (ho : fcOk x.c x.nv = true) {L : List Sh} {cells : List Value} (hfit : fitsG (fitS w) L cells) (hb : x.c.blks = lawBs L 0) (hmt : x.c.mt = x.c.blks.length)
    {us : List Value} (hus : ∀ β ω, VRs β ω (lawAVs L 0 0) cells → VRs β ω x.c.args us) {e : SX} (he : resNeed (fcHook x.c x.nv x.c.args x.c.heap) = some (e, .obool (.cb true))) (hd : dB (lawOpq F E.P w L cells) e = true) :
    Calls E.P x.f us.toArray w (fun e w' => e = .returned (.bool true) ∧ RowKit.Below w.heap.size w w') := by
  obtain ⟨h', hh⟩ := resNeed_at he hd
  obtain ⟨hn, hwm, hget⟩ := x.c.heap_ok (fcOk_at ho).lt
  have hl := fitsG_length hfit
  have hω : ∀ (i : Nat) s v, L[i]? = some s → cells[i]? = some v → (lawOpq F E.P w L cells).w i = symV w s v := fun i s v h1 h2 => by
    show symV w (L.getD i (.col .bool)) (cells.getD i (.bool false)) = _
    rw [List.getD_eq_getElem?_getD, h1, List.getD_eq_getElem?_getD, h2]; rfl
  have hr : HR (fun b => ((lawLs L cells)[b]?).getD none) (lawOpq F E.P w L cells) (· < w.heap.size) w x.c.heap w :=
    law_HR hfit hω (fun _ => rfl) (by rw [hn, hb]) (by rw [hwm, hmt, hb]) (fun b => by rw [hget, hb])
  have hv := hus _ _ (law_VRs (β := fun b => ((lawLs L cells)[b]?).getD none) (ω := lawOpq F E.P w L cells) (n := 0) (b := 0) hfit (fun i s v h1 h2 => by rw [Nat.zero_add]; exact hω i s v h1 h2) (fun j y hy => by
    show ((lawLs L cells)[0 + j]?).getD none = y
    rw [Nat.zero_add, hy]; rfl))
  refine Calls.mono (hx _ ⟨rfl, fun _ => rfl⟩ _ _ _ _ hh (· < w.heap.size) w _ w us hr hv) ?_
  rintro e' w' ⟨u, β', rfl, h1, h3, _⟩
  exact ⟨by rw [show u = .bool true from h1], h3.os, h3.tape, h3.out, h3.size, h3.keep⟩

def isStructT (P : Program) (t : TypeId) : Bool := match P.underlying t with
  | some (.struct _) => true
  | _ => false
theorem structAgg {r : Reach} {b : Nat} {t : TypeId} {v : Value} (h : isStructT P t = true) (hv : Value.okWide P w r b t v) : ∃ cs, v = .agg cs := by
  unfold isStructT at h
  split at h
  · rename_i fs e
    unfold Value.okWide at hv
    rw [e] at hv
    obtain ⟨cs, hc, _⟩ := hv
    exact ⟨cs, hc⟩
  · cases h
end
end Go.Ev
