/- Chapter 20: rows, panes, their order; rows sorted. -/
import Derived.Test.YtogkkhiaddpjpaaE43
import Derived.Test.YtogkkhiaddpjpaaET12
import Derived.Test.YtogkkhiaddpjpaaEM1
set_option autoImplicit false
set_option linter.unusedSimpArgs false
set_option linter.unusedVariables false
namespace Go.Ev
open Go

structure RowM where
  key : List UInt8
  a : Int
  b : Int
  c : Int
  d : Int
  e : Int
  f : Int
  deriving DecidableEq
structure PaneM where
  key : List UInt8
  a : Int
  b : Int
  deriving DecidableEq
def colV (r : Val) (j : Nat) : Val := r.toL.getD j default
def rowM (r : Val) : RowM := ⟨(colV r 0).toS, (colV r 1).toI, (colV r 2).toI, (colV r 3).toI, (colV r 4).toI, (colV r 5).toI, (colV r 6).toI⟩
def paneM (r : Val) : PaneM := ⟨(colV r 0).toS, (colV r 1).toI, (colV r 2).toI⟩
def atV (l : List Val) (i : Nat) : Val := l.getD i (.vl [])
theorem getV_at (l : List Val) (i j : Nat) : getV l (i : Int) (j : Int) = colV (atV l i) j := rfl
def rowsM (v : Val) : List RowM := v.toL.map rowM
def panesM (v : Val) : List PaneM := v.toL.map paneM
def arg (a : List Val) (i : Nat) : Val := a.getD i default

def eqB {α : Type} [DecidableEq α] (a b : α) : Bool := decide (a = b)
@[simp] theorem eqB_t {α : Type} [DecidableEq α] {a b : α} : eqB a b = true ↔ a = b := decide_eq_true_iff
theorem eqB_self {α : Type} [DecidableEq α] (a : α) : eqB a a = true := eqB_t.2 rfl
theorem eqB_f {α : Type} [DecidableEq α] {a b : α} (h : ¬ a = b) : eqB a b = false := decide_eq_false h
theorem eqB_e {α : Type} [DecidableEq α] {a b : α} (h : a = b) : eqB a b = true := decide_eq_true h
def fewB (r : Val) : Bool := decide (60 < (colV r 0).toS.length)
def scanF (bad : Val → Bool) (l : List Val) : Val := encR (scanR (.vb false) (fun k => [.vb false, .vi k]) (fun i => bad (atV l i)) l.length)
def scan2 {α : Type} [DecidableEq α] (m : Val → α) (l r : List Val) : Val := encR (scanR (.vb false) (fun k => [.vb false, .vi k]) (fun i => !decide (m (atV l i) = m (atV r i))) l.length)
def norm7 (r : Val) : Val := .vl [colV r 0, colV r 1, colV r 2, colV r 3, colV r 4, colV r 5, colV r 6]
def norm3 (r : Val) : Val := .vl [colV r 0, colV r 1, colV r 2]
def gathF (a0 : List Val) (g : Val → List Val) (l : List Val) : List Val := a0 ++ gath (fun i => g (atV l i)) l.length
def lastA (a : List Val) (i : Nat) : Val := arg a (a.length - i)
/-! The order of panes. -/
theorem ltB_irrefl : ∀ x : List UInt8, ltB x x = false
  | [] => rfl
  | a :: x => by
    show (bif Nat.blt a.toNat a.toNat then true else bif Nat.beq a.toNat a.toNat then ltB x x else false) = false
    rw [ltB_irrefl x]
    have h1 : Nat.blt a.toNat a.toNat = false := by
      cases h : Nat.blt a.toNat a.toNat with
      | false => rfl
      | true => exact absurd (blt_iff.1 h) (Nat.lt_irrefl _)
    rw [h1]; cases Nat.beq a.toNat a.toNat <;> rfl
theorem ltB_cons (a b : UInt8) (x y : List UInt8) : ltB (a :: x) (b :: y) = true ↔ a.toNat < b.toNat ∨ a = b ∧ ltB x y = true := by
  show (bif Nat.blt a.toNat b.toNat then true else bif Nat.beq a.toNat b.toNat then ltB x y else false) = true ↔ _
  cases h1 : Nat.blt a.toNat b.toNat with
  | true => simp [blt_iff.1 h1]
  | false =>
    have h1' : ¬ a.toNat < b.toNat := fun h => by rw [blt_iff.2 h] at h1; cases h1
    cases h2 : Nat.beq a.toNat b.toNat with
    | true =>
      have : a = b := UInt8.toNat_inj.1 (beq_iff'.1 h2)
      simp [h1', this]
    | false =>
      have : ¬ a = b := fun h => by rw [h, beq_iff'.2 rfl] at h2; cases h2
      simp [h1', this]
theorem ltB_trans : ∀ {x y z : List UInt8}, ltB x y = true → ltB y z = true → ltB x z = true
  | _, [], [], _, h => by cases h
  | _, _ :: _, [], _, h => by cases h
  | [], [], _, h, _ => by cases h
  | _ :: _, [], _, h, _ => by cases h
  | [], _ :: _, _ :: _, _, _ => rfl
  | a :: x, b :: y, c :: z, h1, h2 => by
    rw [ltB_cons] at *
    rcases h1 with h1 | ⟨rfl, h1⟩ <;> rcases h2 with h2 | ⟨rfl, h2⟩
    · exact .inl (Nat.lt_trans h1 h2)
    · exact .inl h1
    · exact .inl h2
    · exact .inr ⟨rfl, ltB_trans h1 h2⟩
theorem ltB_tri : ∀ {x y : List UInt8}, ltB x y = false → ltB y x = false → x = y
  | [], [], _, _ => rfl
  | [], _ :: _, h, _ => by cases h
  | _ :: _, [], _, h => by cases h
  | a :: x, b :: y, h1, h2 => by
    rw [← Bool.not_eq_true, ltB_cons] at h1 h2
    have hab : a = b := UInt8.toNat_inj.1 (by omega)
    subst hab
    have := ltB_tri (x := x) (y := y) (by rw [← Bool.not_eq_true]; exact fun h => h1 (.inr ⟨rfl, h⟩)) (by rw [← Bool.not_eq_true]; exact fun h => h2 (.inr ⟨rfl, h⟩))
    rw [this]
noncomputable def lessM (p q : PaneM) : Bool := ltBytes p.key q.key || decide (p.key = q.key) && (decide (p.b < q.b) || decide (p.b = q.b) && decide (p.a < q.a))
noncomputable def cmpM (p q : PaneM) : Int := if ltBytes p.key q.key then -1 else if ltBytes q.key p.key then 1 else if p.b < q.b then -1 else if q.b < p.b then 1 else if p.a < q.a then -1 else if q.a < p.a then 1 else 0
theorem lessM_iff (p q : PaneM) : lessM p q = true ↔ ltB p.key q.key = true ∨ p.key = q.key ∧ (p.b < q.b ∨ p.b = q.b ∧ p.a < q.a) := by
  simp only [lessM, ltBytes, Bool.or_eq_true, Bool.and_eq_true, decide_eq_true_eq]
theorem lessM_irrefl (p : PaneM) : lessM p p = false := by
  rw [← Bool.not_eq_true, lessM_iff, ltB_irrefl]
  simp
theorem lessM_trans {p q r : PaneM} (h1 : lessM p q = true) (h2 : lessM q r = true) : lessM p r = true := by
  rw [lessM_iff] at *
  rcases h1 with h1 | ⟨e1, h1⟩ <;> rcases h2 with h2 | ⟨e2, h2⟩
  · exact .inl (ltB_trans h1 h2)
  · exact .inl (e2 ▸ h1)
  · exact .inl (e1 ▸ h2)
  · exact .inr ⟨e1.trans e2, by omega⟩
theorem lessM_tri {p q : PaneM} (h1 : lessM p q = false) (h2 : lessM q p = false) : p = q := by
  rw [← Bool.not_eq_true, lessM_iff] at h1 h2
  obtain ⟨a1, a2⟩ := not_or.1 h1
  obtain ⟨b1, b2⟩ := not_or.1 h2
  have hk := ltB_tri (by rwa [← Bool.not_eq_true]) (by rwa [← Bool.not_eq_true]) (x := p.key) (y := q.key)
  obtain ⟨k, a, b⟩ := p
  obtain ⟨k', a', b'⟩ := q
  simp only at hk a2 b2
  subst hk
  simp only [true_and] at a2 b2
  have : a = a' ∧ b = b' := by omega
  rw [this.1, this.2]
theorem cmpM_neg (p q : PaneM) : cmpM p q < 0 ↔ lessM p q = true := by
  rw [lessM_iff]
  unfold cmpM ltBytes
  cases h1 : ltB p.key q.key with
  | true => simp
  | false =>
    cases h2 : ltB q.key p.key with
    | true =>
      have : ¬ p.key = q.key := fun h => by rw [h, ltB_irrefl] at h2; cases h2
      simp [this]
    | false =>
      have hk := ltB_tri h1 h2
      simp only [hk, Bool.false_eq_true, if_false, true_and, false_or]
      repeat' split
      all_goals omega
theorem lessM_asymm {p q : PaneM} (h : lessM p q = true) : lessM q p = false := by
  rw [← Bool.not_eq_true]
  intro h2
  have := lessM_trans h h2
  rw [lessM_irrefl] at this; cases this
theorem lessM_ntrans {p q r : PaneM} (h1 : lessM p q = false) (h2 : lessM q r = false) : lessM p r = false := by
  rw [← Bool.not_eq_true]
  intro h
  cases h3 : lessM q p with
  | true => have := lessM_trans h3 h; rw [h2] at this; cases this
  | false => rw [lessM_tri h1 h3] at h; rw [h2] at h; cases h
noncomputable def cfV (a b : Val) : Int := cmpM (paneM a) (paneM b)
noncomputable def lessV (a b : Val) : Bool := lessM (paneM a) (paneM b)
theorem ltOf_cfV (a b : Val) : Go.Proofs.ltOf cfV a b = lessV a b := by
  unfold Go.Proofs.ltOf cfV lessV
  rw [Bool.eq_iff_iff, decide_eq_true_iff, cmpM_neg]
theorem swo_cfV : Go.Sort.SWO (Go.Proofs.ltOf cfV) where
  irrefl x := by rw [ltOf_cfV]; exact lessM_irrefl _
  trans x y z h1 h2 := by rw [ltOf_cfV] at *; exact lessM_trans h1 h2
  ntrans x y z h1 h2 := by rw [ltOf_cfV] at *; exact lessM_ntrans h1 h2

/-! A row sorted by swaps. -/
def norm8 (r : Val) : Val := .vl [colV r 0, colV r 1, colV r 2, colV r 3, colV r 4, colV r 5, colV r 6, colV r 7]
theorem norm8_r (r : Val) : Val.vl [colV r 0, colV r 1, colV r 2, colV r 3, colV r 4, colV r 5, colV r 6, colV r 7] = norm8 r := rfl
theorem norm8_norm8 (r : Val) : norm8 (norm8 r) = norm8 r := rfl
theorem paneM_norm8 (r : Val) : paneM (norm8 r) = paneM r := rfl
def swapV (l : List Val) (k : Nat) : List Val := (l.set k (norm8 (atV l (k + 1)))).set (k + 1) (norm8 (atV l k))
noncomputable def bub : List Val → Nat → Nat × List Val
  | l, 0 => (0, l)
  | l, k + 1 => if lessV (atV l (k + 1)) (atV l k) then bub (swapV l k) k else (k + 1, l)
noncomputable def isortN (l : List Val) : Nat → List Val
  | 0 => []
  | i + 1 => (bub (isortN l i ++ [norm8 (atV l i)]) i).2
noncomputable def isort (l : List Val) : List Val := isortN l l.length
theorem swapV_len (l : List Val) (k : Nat) : (swapV l k).length = l.length := by simp [swapV]
theorem bub_len : ∀ (k : Nat) (l : List Val), (bub l k).2.length = l.length
  | 0, _ => rfl
  | k + 1, l => by
    unfold bub
    split
    · rw [bub_len k, swapV_len]
    · rfl
theorem isortN_len (l : List Val) : ∀ i, (isortN l i).length = i
  | 0 => rfl
  | i + 1 => by rw [isortN, bub_len, List.length_append, isortN_len l i]; rfl
noncomputable def insD (x : Val) : List Val → List Val
  | [] => [x]
  | y :: r => if lessV x y then y :: insD x r else x :: y :: r
noncomputable def dsc (l : List Val) : Nat → List Val
  | 0 => []
  | i + 1 => insD (norm8 (atV l i)) (dsc l i)
theorem atV_app (a b : List Val) (k : Nat) (h : a.length = k) : atV (a ++ b) k = atV b 0 := by
  subst h
  unfold atV
  rw [List.getD_eq_getElem?_getD, List.getD_eq_getElem?_getD, List.getElem?_append_right (Nat.le_refl _), Nat.sub_self]
theorem bub_ins (x : Val) (hx : norm8 x = x) : ∀ (s t : List Val), (∀ y ∈ s, norm8 y = y) → (bub (s.reverse ++ x :: t) s.length).2 = (insD x s).reverse ++ t
  | [], t, _ => rfl
  | y :: r, t, h => by
    have hy : norm8 y = y := h y (by simp)
    have e1 : (y :: r).reverse ++ x :: t = r.reverse ++ y :: x :: t := by simp
    have a1 : atV (r.reverse ++ y :: x :: t) r.length = y := by rw [atV_app _ _ _ (by simp)]; rfl
    have a2 : atV (r.reverse ++ y :: x :: t) (r.length + 1) = x := by
      rw [show r.reverse ++ y :: x :: t = (r.reverse ++ [y]) ++ x :: t by simp, atV_app _ _ _ (by simp)]; rfl
    rw [e1, List.length_cons]
    unfold bub insD
    rw [a1, a2]
    split
    · have sw : swapV (r.reverse ++ y :: x :: t) r.length = r.reverse ++ x :: (y :: t) := by
        have q1 : ∀ v, (r.reverse ++ y :: x :: t).set r.length v = r.reverse ++ v :: x :: t := fun v => by rw [List.set_append]; simp
        have q2 : (r.reverse ++ x :: x :: t).set (r.length + 1) y = r.reverse ++ x :: y :: t := by rw [List.set_append, if_neg (by simp)]; simp
        unfold swapV
        rw [a1, a2, hx, hy, q1, q2]
      rw [sw, bub_ins x hx r (y :: t) (fun z hz => h z (by simp [hz]))]
      simp
    · simp
theorem insD_perm (x : Val) : ∀ s : List Val, (insD x s).Perm (x :: s)
  | [] => .refl _
  | y :: r => by
    unfold insD
    split
    · exact ((insD_perm x r).cons y).trans (.swap x y r)
    · exact .refl _
theorem dsc_norm (l : List Val) : ∀ i, ∀ y ∈ dsc l i, norm8 y = y
  | 0, y, h => by cases h
  | i + 1, y, h => by
    have := (insD_perm (norm8 (atV l i)) (dsc l i)).mem_iff.1 h
    rcases List.mem_cons.1 this with rfl | h
    · rfl
    · exact dsc_norm l i y h
theorem dsc_len (l : List Val) : ∀ i, (dsc l i).length = i
  | 0 => rfl
  | i + 1 => by rw [dsc, (insD_perm _ _).length_eq, List.length_cons, dsc_len l i]
theorem isortN_dsc (l : List Val) : ∀ i, isortN l i = (dsc l i).reverse
  | 0 => rfl
  | i + 1 => by
    have := bub_ins (norm8 (atV l i)) rfl (dsc l i) [] (dsc_norm l i)
    rw [dsc_len] at this
    rw [isortN, isortN_dsc l i, this, List.append_nil, dsc]
theorem dsc_perm (l : List Val) : ∀ i, (dsc l i).Perm ((List.range i).map fun k => norm8 (atV l k))
  | 0 => .refl _
  | i + 1 => by
    rw [List.range_succ, List.map_append]
    exact (insD_perm _ _).trans (((dsc_perm l i).cons _).trans (List.perm_append_singleton _ _).symm)
theorem insD_sorted (x : Val) : ∀ s : List Val, s.Pairwise (fun a b => lessV a b = false) → (insD x s).Pairwise (fun a b => lessV a b = false)
  | [], _ => by simp [insD]
  | y :: r, h => by
    unfold insD
    rw [List.pairwise_cons] at h
    split
    · rename_i hl
      rw [List.pairwise_cons]
      refine ⟨fun z hz => ?_, insD_sorted x r h.2⟩
      rcases List.mem_cons.1 ((insD_perm x r).mem_iff.1 hz) with rfl | hz
      · exact lessM_asymm hl
      · exact h.1 z hz
    · rename_i hl
      have hl : lessV x y = false := by simpa using hl
      rw [List.pairwise_cons, List.pairwise_cons]
      refine ⟨fun z hz => ?_, h⟩
      rcases List.mem_cons.1 hz with rfl | hz
      · exact hl
      · exact lessM_ntrans hl (h.1 z hz)
theorem dsc_sorted (l : List Val) : ∀ i, (dsc l i).Pairwise (fun a b => lessV a b = false)
  | 0 => .nil
  | i + 1 => insD_sorted _ _ (dsc_sorted l i)
theorem map_range {α : Type} (f : Val → α) (l : List Val) : ((List.range l.length).map fun k => f (atV l k)) = l.map f := by
  refine List.ext_getElem (by simp) fun i h1 h2 => ?_
  have hi : i < l.length := by simpa using h1
  simp [atV, List.getD_eq_getElem?_getD, hi]
theorem isort_perm (l : List Val) : (isort l).Perm (l.map norm8) := by
  unfold isort
  rw [isortN_dsc, ← map_range norm8 l]
  exact (List.reverse_perm _).trans (dsc_perm l l.length)
theorem isort_sorted (l : List Val) : (isort l).Pairwise (fun a b => lessV b a = false) := by
  unfold isort
  rw [isortN_dsc, List.pairwise_reverse]
  exact dsc_sorted l l.length
theorem nodup_inj {α β : Type} {f : α → β} : ∀ {l : List α}, (l.map f).Nodup → ∀ {a b : α}, a ∈ l → b ∈ l → f a = f b → a = b
  | [], _, a, b, ha, _, _ => by cases ha
  | x :: l, h, a, b, ha, hb, e => by
    rw [List.map_cons, List.nodup_cons] at h
    rcases List.mem_cons.1 ha with h1 | h1 <;> rcases List.mem_cons.1 hb with h2 | h2
    · rw [h1, h2]
    · exact absurd (List.mem_map.2 ⟨b, h2, by rw [← e, h1]⟩) h.1
    · exact absurd (List.mem_map.2 ⟨a, h1, by rw [e, h2]⟩) h.1
    · exact nodup_inj h.2 h1 h2 e
theorem sortV_isort {l : List Val} (hn : ∀ x ∈ l, norm8 x = x) (hd : (l.map paneM).Nodup) : sortV cfV l = isort l := by
  obtain ⟨p1, s1⟩ := sortV_perm swo_cfV l
  have hm : l.map norm8 = l := by
    rw [List.map_congr_left hn]; simp
  have p2 := isort_perm l
  rw [hm] at p2
  refine List.Perm.eq_of_pairwise (le := fun a b => lessV b a = false) (fun a b ha hb h1 h2 => ?_) (s1.imp fun {a b} h => ?_) (isort_sorted l) (p1.trans p2.symm)
  · exact nodup_inj hd (p1.mem_iff.1 ha) (p2.mem_iff.1 hb) (lessM_tri h2 h1)
  · rw [← Bool.not_eq_true]
    intro hh
    exact h ((cmpM_neg _ _).2 hh)

@[simp] theorem toI_vi (n : Int) : (Val.vi n).toI = n := rfl
@[simp] theorem toS_vs (n : List UInt8) : (Val.vs n).toS = n := rfl
@[simp] theorem toB_vb (n : Bool) : (Val.vb n).toB = n := rfl
@[simp] theorem toL_vl (n : List Val) : (Val.vl n).toL = n := rfl
structure ChgM where
  key : List UInt8
  a : Int
  b : Int
  dead : Bool
  c : Int
  d : Int
  e : Int
  f : Int
  deriving DecidableEq
def chgM (r : Val) : ChgM := ⟨(colV r 0).toS, (colV r 1).toI, (colV r 2).toI, (colV r 3).toB, (colV r 4).toI, (colV r 5).toI, (colV r 6).toI, (colV r 7).toI⟩
theorem chgM_iff (a b : Val) : chgM a = chgM b ↔ ((colV a 0).toS = (colV b 0).toS ∧ (colV a 1).toI = (colV b 1).toI ∧ (colV a 2).toI = (colV b 2).toI) ∧ (colV a 3).toB = (colV b 3).toB ∧ (colV a 4).toI = (colV b 4).toI ∧ (colV a 5).toI = (colV b 5).toI ∧ (colV a 6).toI = (colV b 6).toI ∧ (colV a 7).toI = (colV b 7).toI := by
  simp only [chgM, ChgM.mk.injEq]
  constructor <;> intro h <;> simp_all
def chgsM (v : Val) : List ChgM := v.toL.map chgM
def okV (r : Val) : Bool := !(decide ((colV r 3).toI = 0) && (decide ((colV r 4).toI = 0) && (decide ((colV r 5).toI = 0) && decide ((colV r 6).toI = 0)))) && (decide ((colV r 3).toI = 1) && (decide ((colV r 4).toI = (colV r 5).toI) && decide ((colV r 5).toI = (colV r 6).toI)) || decide (1 < (colV r 3).toI) && decide ((colV r 5).toI ≤ (colV r 6).toI))
theorem okV_t (r : Val) : okV r = true ↔ ¬ ((colV r 3).toI = 0 ∧ (colV r 4).toI = 0 ∧ (colV r 5).toI = 0 ∧ (colV r 6).toI = 0) ∧ ((colV r 3).toI = 1 ∧ (colV r 4).toI = (colV r 5).toI ∧ (colV r 5).toI = (colV r 6).toI ∨ 1 < (colV r 3).toI ∧ (colV r 5).toI ≤ (colV r 6).toI) := by
  simp only [okV, Bool.and_eq_true, Bool.or_eq_true, Bool.not_eq_true', Bool.and_eq_false_iff, decide_eq_true_eq, decide_eq_false_iff_not]
  constructor <;> intro h <;> omega
theorem okV_f (r : Val) : okV r = false ↔ ¬ (¬ ((colV r 3).toI = 0 ∧ (colV r 4).toI = 0 ∧ (colV r 5).toI = 0 ∧ (colV r 6).toI = 0) ∧ ((colV r 3).toI = 1 ∧ (colV r 4).toI = (colV r 5).toI ∧ (colV r 5).toI = (colV r 6).toI ∨ 1 < (colV r 3).toI ∧ (colV r 5).toI ≤ (colV r 6).toI)) := by
  rw [← okV_t]; simp
def eqAt (l : List Val) (i k : Nat) : Bool := decide (paneM (atV l k) = paneM (atV l i))
def dupV (l : List Val) (i : Nat) : Bool := (List.range i).any (eqAt l i)
def badV (l : List Val) (i : Nat) : Bool := !okV (atV l i) || dupV l i
def rowsOkV (l : List Val) : Bool := !(List.range l.length).any (badV l)
def idxV (l : List Val) (p : PaneM) : Nat := l.findIdx fun r => decide (paneM r = p)
def hasV (l : List Val) (p : PaneM) : Bool := decide (idxV l p < l.length)
def deadV (r : Val) : Val := .vl [colV r 0, colV r 1, colV r 2, .vb true, .vi 0, .vi 0, .vi 0, .vi 0]
def putV (r : Val) : Val := .vl [colV r 0, colV r 1, colV r 2, .vb false, colV r 3, colV r 4, colV r 5, colV r 6]
def deadG (m : List Val) (r : Val) : List Val := bif hasV m (paneM r) then [] else [deadV r]
def aggEq (a b : Val) : Bool := decide ((colV a 3).toI = (colV b 3).toI ∧ (colV a 4).toI = (colV b 4).toI ∧ (colV a 5).toI = (colV b 5).toI ∧ (colV a 6).toI = (colV b 6).toI)
def putG (m : List Val) (r : Val) : List Val := bif hasV m (paneM r) && aggEq (atV m (idxV m (paneM r))) r then [] else [putV r]
def diffs (a b : List Val) : List Val := a.flatMap (deadG b) ++ b.flatMap (putG a)
def oddC : Val := .vl [.vs [63], .vi 0, .vi 0, .vb false, .vi 0, .vi 0, .vi 0, .vi 0]
def spoilC (v : Val) : Nat → Val
  | 0 => v
  | n + 1 => .vl ((spoilC v n).toL.set n oddC)
theorem spoilC_len (v : Val) : ∀ n, (spoilC v n).toL.length = v.toL.length
  | 0 => rfl
  | n + 1 => by rw [spoilC, toL_vl, List.length_set, spoilC_len v n]
def pan3 (a : List Val) (i : Nat) : PaneM := ⟨(arg a i).toS, (arg a (i + 1)).toI, (arg a (i + 2)).toI⟩
def gathR (a0 : List Val) (g : Val → List Val) (l : List Val) : Val := encR (0, [.vi (gathF a0 g l).length, .vi l.length, .vl (gathF a0 g l)])
def tabR (l : List Val) : Nat × List Val := match (List.range l.length).find? (badV l) with
  | some k => (1, [.vi k, .vl (gath (fun i => [norm7 (atV l i)]) k)])
  | none => (0, [.vi l.length, .vl (gath (fun i => [norm7 (atV l i)]) l.length)])
def findR (l : List Val) (p : PaneM) : Nat × List Val := bif hasV l p then (1, [.vb true, .vi (idxV l p), colV (atV l (idxV l p)) 3, colV (atV l (idxV l p)) 4, colV (atV l (idxV l p)) 5, colV (atV l (idxV l p)) 6]) else (0, [.vb false, .vi l.length, .vi 0, .vi 0, .vi 0, .vi 0])

noncomputable def F (id : Nat) (a : List Val) : Val := match id with
  | 1 => .vb (!(arg a 0).toL.any fewB)
  | 3 => .vb (eqB (rowsM (arg a 0)) (rowsM (arg a 1)))
  | 30 => .vl ((arg a 0).toL.map norm7)
  | 200 => .vl ((arg a 0).toL.map norm8)
  | 201 => .vb (eqB (chgsM (arg a 0)) (chgsM (arg a 1)))
  | 202 => .vb (rowsOkV (arg a 0).toL)
  | 203 => .vl [.vl ((findR (arg a 0).toL (pan3 a 1)).2.drop 2)]
  | 204 => .vb (hasV (arg a 0).toL (pan3 a 1))
  | 205 => .vb (lessM (pan3 a 0) (pan3 a 3))
  | 206 => .vi (cmpM (pan3 a 0) (pan3 a 3))
  | 207 => .vl (isort (arg a 0).toL)
  | 208 => .vl (bif rowsOkV (arg a 0).toL && rowsOkV (arg a 1).toL then isort (diffs (arg a 0).toL (arg a 1).toL) else [])
  | 209 => .vi (bif rowsOkV (arg a 0).toL && rowsOkV (arg a 1).toL then 0 else 2)
  | 211 => .vl (sortV cfV (arg a 0).toL)
  | 101 => scanF fewB (arg a 4).toL
  | 103 => gathR [] (fun r => [norm7 r]) (arg a 5).toL
  | 107 => scan2 rowM (arg a 4).toL (arg a 7).toL
  | 130 => gathR [] (fun r => [norm8 r]) (arg a 5).toL
  | 131 => scan2 chgM (arg a 4).toL (arg a 7).toL
  | 132 => encR (0, [.vi (arg a 2).toI.toNat, spoilC (arg a 1) (arg a 2).toI.toNat])
  | 133 => encR (scanR (.vb false) (fun k => [.vb false, .vi k]) (badV (arg a 4).toL) (arg a 4).toL.length)
  | 134 => encR (scanR (arg a 0) (fun k => [.vb false, .vi k]) (eqAt (arg a 4).toL (arg a 5).toI.toNat) (arg a 5).toI.toNat)
  | 135 => encR (findR (arg a 8).toL (pan3 a 9))
  | 136 => encR (0, [.vi (arg a 5).toL.length, .vi (arg a 5).toL.length, .vl (isort (arg a 5).toL)])
  | 137 => encR (0, [.vi (bub (arg a 1).toL (arg a 0).toI.toNat).1, .vl (bub (arg a 1).toL (arg a 0).toI.toNat).2])
  | 140 => encR (tabR (arg a 5).toL)
  | 141 => gathR [] (deadG (arg a 7).toL) (arg a 10).toL
  | 142 => gathR (arg a 2).toL (putG (arg a 3).toL) (arg a 6).toL
  | 143 => gathR [] (deadG (arg a 8).toL) (arg a 5).toL
  | 144 => gathR (arg a 2).toL (putG (arg a 5).toL) (arg a 8).toL
  | _ => .vb false

theorem arg_0 (x : Val) (l : List Val) : arg (x :: l) 0 = x := rfl
theorem arg_s (x : Val) (l : List Val) (n : Nat) : arg (x :: l) (n + 1) = arg l n := rfl
theorem dec_i (a b : Nat) : decide ((a : Int) < (b : Int)) = decide (a < b) := by simp

theorem upd_hi (ω : Opq) (v0 : Nat) (l : List Val) (n : Nat) (h : v0 ≤ n) : (ω.upd v0 l).w n = l.getD (n - v0) (.vb false) := if_pos h
theorem upd_lo (ω : Opq) (v0 : Nat) (l : List Val) (n : Nat) (h : n < v0) : (ω.upd v0 l).w n = ω.w n := if_neg (by omega)
theorem upd_f (ω : Opq) (v0 : Nat) (l : List Val) : (ω.upd v0 l).f = ω.f := rfl

theorem upd_at (ω : Opq) (v0 : Nat) (l : List Val) (n : Nat) : (ω.upd v0 l).w n = if v0 ≤ n then l.getD (n - v0) (.vb false) else ω.w n := rfl
@[simp] theorem arI_add1 {i : Nat} (h : i ≤ 10000000) : arI .add .i64 (i : Int) 1 = ((i + 1 : Nat) : Int) := wrap_small h
@[simp] theorem cmpI_lss (a b : Int) : cmpI .lss a b = decide (a < b) := rfl
@[simp] theorem cmpI_leq (a b : Int) : cmpI .leq a b = decide (a ≤ b) := rfl
@[simp] theorem cmpI_gtr (a b : Int) : cmpI .gtr a b = decide (b < a) := rfl
@[simp] theorem cmpI_geq (a b : Int) : cmpI .geq a b = decide (b ≤ a) := rfl
@[simp] theorem cmpI_eql (a b : Int) : cmpI .eql a b = decide (a = b) := rfl
@[simp] theorem cmpI_neq (a b : Int) : cmpI .neq a b = !decide (a = b) := rfl
@[simp] theorem cmpS_eql (a b : List UInt8) : cmpS .eql a b = decide (a = b) := rfl
@[simp] theorem cmpS_neq (a b : List UInt8) : cmpS .neq a b = !decide (a = b) := rfl
theorem scanF_eq (bad : Val → Bool) (l : List Val) : scanF bad l = encR (if l.any bad then (1, [.vb false, .vi (((List.range l.length).find? (fun i => bad (atV l i))).getD 0)]) else (0, [.vb false, .vi l.length])) := by
  rw [scanF, scanR_find]
  rw [show (List.range l.length).any (fun i => bad (atV l i)) = l.any bad from any_range bad (.vl []) l]
theorem scanR_eq (bad : Val → Bool) (l : List Val) (px : Nat → List Val) (x : Val) : scanR x px (fun i => bad (atV l i)) l.length = if l.any bad then (1, px (((List.range l.length).find? (fun i => bad (atV l i))).getD 0)) else (0, [x, .vi l.length]) := by
  rw [scanR_find]
  rw [show (List.range l.length).any (fun i => bad (atV l i)) = l.any bad from any_range bad (.vl []) l]

theorem scan2_any {α : Type} [DecidableEq α] (m : Val → α) (l r : List Val) (h : l.length = r.length) : ((List.range l.length).any fun i => !decide (m (atV l i) = m (atV r i))) = !decide (l.map m = r.map m) := eq_range m (.vl []) l r h
theorem scanR_eq2 {α : Type} [DecidableEq α] (m : Val → α) (l r : List Val) (h : l.length = r.length) (px : Nat → List Val) (x : Val) : scanR x px (fun i => !decide (m (atV l i) = m (atV r i))) l.length = if l.map m = r.map m then (0, [x, .vi l.length]) else (1, px (((List.range l.length).find? (fun i => !decide (m (atV l i) = m (atV r i)))).getD 0)) := by
  rw [scanR_find, scan2_any m l r h]
  by_cases h1 : l.map m = r.map m <;> simp [h1]
theorem scan2_eq {α : Type} [DecidableEq α] (m : Val → α) (l r : List Val) (h : l.length = r.length) : scan2 m l r = encR (if l.map m = r.map m then (0, [.vb false, .vi l.length]) else (1, [.vb false, .vi (((List.range l.length).find? (fun i => !decide (m (atV l i) = m (atV r i)))).getD 0)])) := by
  rw [scan2, scanR_eq2 m l r h]
theorem map_ne {α : Type} (m : Val → α) {l r : List Val} (h : l.length ≠ r.length) : ¬ l.map m = r.map m := fun e => h (by simpa using congrArg List.length e)
theorem rowM_iff (a b : Val) : rowM a = rowM b ↔ ((colV a 0).toS = (colV b 0).toS ∧ (colV a 1).toI = (colV b 1).toI ∧ (colV a 2).toI = (colV b 2).toI) ∧ (colV a 3).toI = (colV b 3).toI ∧ (colV a 4).toI = (colV b 4).toI ∧ (colV a 5).toI = (colV b 5).toI ∧ (colV a 6).toI = (colV b 6).toI := by
  simp only [rowM, RowM.mk.injEq]
  constructor <;> intro h <;> simp_all
theorem paneM_iff (a b : Val) : paneM a = paneM b ↔ (colV a 0).toS = (colV b 0).toS ∧ (colV a 1).toI = (colV b 1).toI ∧ (colV a 2).toI = (colV b 2).toI := by
  simp only [paneM, PaneM.mk.injEq]
theorem getV_c (l : List Val) (i : Nat) (j : Nat) : getV l (i : Int) (j : Int) = colV (atV l i) j := rfl
theorem getV_0 (l : List Val) (i : Nat) : getV l (i : Int) 0 = colV (atV l i) 0 := rfl
theorem getV_1 (l : List Val) (i : Nat) : getV l (i : Int) 1 = colV (atV l i) 1 := rfl
theorem getV_2 (l : List Val) (i : Nat) : getV l (i : Int) 2 = colV (atV l i) 2 := rfl
theorem getV_3 (l : List Val) (i : Nat) : getV l (i : Int) 3 = colV (atV l i) 3 := rfl
theorem getV_4 (l : List Val) (i : Nat) : getV l (i : Int) 4 = colV (atV l i) 4 := rfl
theorem getV_5 (l : List Val) (i : Nat) : getV l (i : Int) 5 = colV (atV l i) 5 := rfl
theorem getV_6 (l : List Val) (i : Nat) : getV l (i : Int) 6 = colV (atV l i) 6 := rfl

theorem t_fewRows {ω : Opq} (hf : ∀ i a, ω.f i a = F i a) (hn : (ω.w 0).toL.length ≤ 1000) : evalT T_fewRows ω = some (0, [F 1 [ω.w 0]]) := by
  unfold T_fewRows L101
  simp only [evalT, evalTs, dens, den, dB, prim, List.cons_append, List.nil_append]
  rw [scan_loop (bad := fun i => fewB (atV (ω.w 0).toL i)) (px := fun k => [.vb false, .vi k]) (n := (ω.w 0).toL.length)]
  · simp only [hf, F, arg_0, arg_s, scanF_eq, scanR_eq]
    cases h : (ω.w 0).toL.any fewB <;> simp [evalTs, evalT, h, den, dens, prim, encR, getV, hf, F, scanF_eq, arg_0, arg_s]
  · intro i hi hb
    simp [hi, upd_at, arI_add1 (show i ≤ 10000000 by omega), fewB, getV_nat, atV, colV] at hb ⊢
    omega
  · intro i hi hb
    simp [hi, upd_at, fewB, getV_nat, atV, colV] at hb ⊢
    omega
  · simp [upd_at]
theorem wrap_i64 {x : Int} (h : 0 ≤ x) (h2 : x ≤ 10000000) : IntKind.i64.wrap x = x := by
  simp only [IntKind.wrap, IntKind.bits, IntKind.signed]
  simp
  omega
theorem t_sameV {ω : Opq} (hf : ∀ i a, ω.f i a = F i a) (hn : (ω.w 0).toL.length ≤ 1000000) : evalT T_sameV ω = some (0, [F 3 [ω.w 0, ω.w 1]]) := by
  unfold T_sameV L107
  simp only [evalT, evalTs, dens, den, dB, prim, List.cons_append, List.nil_append]
  by_cases hl : (ω.w 0).toL.length = (ω.w 1).toL.length
  · have hl' : ((ω.w 0).toL.length : Int) = (ω.w 1).toL.length := by rw [hl]
    rw [scan_loop (bad := fun i => !decide (rowM (atV (ω.w 0).toL i) = rowM (atV (ω.w 1).toL i))) (px := fun k => [.vb false, .vi k]) (n := (ω.w 0).toL.length)]
    · simp only [hf, F, arg_0, arg_s, scan2_eq rowM _ _ hl, scanR_eq2 rowM _ _ hl, hl']
      by_cases h : (ω.w 0).toL.map rowM = (ω.w 1).toL.map rowM <;> simp [evalTs, evalT, h, den, dens, prim, encR, getV, hf, F, arg_0, arg_s, hl', eqB, scan2_eq rowM _ _ hl, rowsM]
    · intro i hi hb
      have hi' : i < (ω.w 1).toL.length := by omega
      simp only [Bool.not_eq_false', decide_eq_true_eq, rowM_iff] at hb
      simp [hi, hi', upd_at, arI_add1 (show i ≤ 10000000 by omega), getV_0, getV_1, getV_2, getV_3, getV_4, getV_5, getV_6, hb]
    · intro i hi hb
      have hi' : i < (ω.w 1).toL.length := by omega
      simp only [Bool.not_eq_true', decide_eq_false_iff_not, rowM_iff] at hb
      simp [hi, hi', upd_at, getV_0, getV_1, getV_2, getV_3, getV_4, getV_5, getV_6]
      simpa using hb
    · simp [upd_at]
  · have hl' : ¬ ((ω.w 0).toL.length : Int) = (ω.w 1).toL.length := by omega
    simp [hl', F, arg_0, arg_s, rowsM, eqB, map_ne _ hl, dens, den]

theorem gath_loop {step : List Val → Option (Nat × List Val)} {n : Nat} {a0 : List Val} {g : Nat → List Val} (mk : Nat → List Val → List Val) {s0 p : List Val} (h0 : s0 = mk 0 a0)
    (h1 : ∀ i, i < n → step (mk i (a0 ++ gath g i)) = some (0, mk (i + 1) (a0 ++ gath g i ++ g i))) (h2 : step (mk n (a0 ++ gath g n)) = some (1, p)) : loopOf step s0 = some (0, p) := by
  have := loop_eq (step := step) (st := fun i => mk i (a0 ++ gath g i)) (n := n) (j := 0) (p := p) (fun i hi => by
    show step (mk i (a0 ++ gath g i)) = some (0, mk (i + 1) (a0 ++ (gath g i ++ g i)))
    rw [h1 i hi, List.append_assoc]) h2
  rw [h0]
  simpa only [gath, List.append_nil] using this
theorem flat_one {α β : Type} (f : α → β) : ∀ l : List α, l.flatMap (fun r => [f r]) = l.map f
  | [] => rfl
  | a :: l => by rw [List.flatMap_cons, flat_one f l]; rfl
theorem norm7_r (r : Val) : Val.vl [colV r 0, colV r 1, colV r 2, colV r 3, colV r 4, colV r 5, colV r 6] = norm7 r := rfl
theorem norm3_r (r : Val) : Val.vl [colV r 0, colV r 1, colV r 2] = norm3 r := rfl
theorem iter_loop {step : List Val → Option (Nat × List Val)} {n j : Nat} (st : Nat → List Val) {s0 p : List Val} (h0 : s0 = st 0) (h1 : ∀ i, i < n → step (st i) = some (0, st (i + 1))) (h2 : step (st n) = some (j + 1, p)) : loopOf step s0 = some (j, p) := by
  rw [h0]; exact loop_eq h1 h2
theorem t_rows {ω : Opq} (hf : ∀ i a, ω.f i a = F i a) (hn : (ω.w 0).toL.length ≤ 100) : evalT T_rows ω = some (0, [F 30 [ω.w 0]]) := by
  have hg : ∀ i, (gath (fun i => [norm7 (atV (ω.w 0).toL i)]) i).length ≤ i := fun i => by simpa using gath_len (g := fun i => [norm7 (atV (ω.w 0).toL i)]) (m := 1) (fun _ => by simp) i
  have hr : gath (fun i => [norm7 (atV (ω.w 0).toL i)]) (ω.w 0).toL.length = (ω.w 0).toL.map norm7 := by
    rw [gath_range, show (fun i => [norm7 (atV (ω.w 0).toL i)]) = fun i => (fun r => [norm7 r]) ((ω.w 0).toL.getD i (.vl [])) from rfl, flat_range (fun r => [norm7 r]) (.vl []) (ω.w 0).toL]
    exact flat_one _ _
  unfold T_rows L103 rows_1 rows_0
  simp only [evalT, evalTs, dens, den, dB, prim, List.cons_append, List.nil_append]
  rw [gath_loop (fun i acc => [.vi acc.length, .vi i, .vl acc]) (a0 := []) (g := fun i => [norm7 (atV (ω.w 0).toL i)]) (n := (ω.w 0).toL.length) (p := [.vi (gathF [] (fun r => [norm7 r]) (ω.w 0).toL).length, .vi (ω.w 0).toL.length, .vl (gathF [] (fun r => [norm7 r]) (ω.w 0).toL)]) (by simp)]
  · simp [hf, F, gathR, arg_0, arg_s, gathF, evalTs, evalT, den, dens, dB, prim, encR, getV, hr]
  · intro i hi
    have := hg i
    have hb : ((gath (fun i => [norm7 (atV (ω.w 0).toL i)]) i).length : Int) + 1 ≤ 1000000 := by omega
    simp [hi, upd_at, arI_add1 (show i ≤ 10000000 by omega), getV_0, getV_1, getV_2, getV_3, getV_4, getV_5, getV_6, norm7_r, hb]
  · simp [upd_at, gathF]
theorem getV_7 (l : List Val) (i : Nat) : getV l (i : Int) 7 = colV (atV l i) 7 := rfl
theorem t_changes {ω : Opq} (hf : ∀ i a, ω.f i a = F i a) (hn : (ω.w 0).toL.length ≤ 1000) : evalT T_changes ω = some (0, [F 200 [ω.w 0]]) := by
  have hg : ∀ i, (gath (fun i => [norm8 (atV (ω.w 0).toL i)]) i).length ≤ i := fun i => by simpa using gath_len (g := fun i => [norm8 (atV (ω.w 0).toL i)]) (m := 1) (fun _ => by simp) i
  have hr : gath (fun i => [norm8 (atV (ω.w 0).toL i)]) (ω.w 0).toL.length = (ω.w 0).toL.map norm8 := by
    rw [gath_range, show (fun i => [norm8 (atV (ω.w 0).toL i)]) = fun i => (fun r => [norm8 r]) ((ω.w 0).toL.getD i (.vl [])) from rfl, flat_range (fun r => [norm8 r]) (.vl []) (ω.w 0).toL]
    exact flat_one _ _
  unfold T_changes L130 changes_1 changes_0
  simp only [evalT, evalTs, dens, den, dB, prim, List.cons_append, List.nil_append]
  rw [gath_loop (fun i acc => [.vi acc.length, .vi i, .vl acc]) (a0 := []) (g := fun i => [norm8 (atV (ω.w 0).toL i)]) (n := (ω.w 0).toL.length) (p := [.vi (gathF [] (fun r => [norm8 r]) (ω.w 0).toL).length, .vi (ω.w 0).toL.length, .vl (gathF [] (fun r => [norm8 r]) (ω.w 0).toL)]) (by simp)]
  · simp [hf, F, gathR, arg_0, arg_s, gathF, evalTs, evalT, den, dens, dB, prim, encR, getV, hr]
  · intro i hi
    have := hg i
    have hb : ((gath (fun i => [norm8 (atV (ω.w 0).toL i)]) i).length : Int) + 1 ≤ 1000000 := by omega
    simp [hi, upd_at, arI_add1 (show i ≤ 10000000 by omega), getV_0, getV_1, getV_2, getV_3, getV_4, getV_5, getV_6, getV_7, norm8_r, hb]
  · simp [upd_at, gathF]
theorem t_sameC {ω : Opq} (hf : ∀ i a, ω.f i a = F i a) (hn : (ω.w 0).toL.length ≤ 1000000) : evalT T_sameC ω = some (0, [F 201 [ω.w 0, ω.w 1]]) := by
  unfold T_sameC L131
  simp only [evalT, evalTs, dens, den, dB, prim, List.cons_append, List.nil_append]
  by_cases hl : (ω.w 0).toL.length = (ω.w 1).toL.length
  · have hl' : ((ω.w 0).toL.length : Int) = (ω.w 1).toL.length := by rw [hl]
    rw [scan_loop (bad := fun i => !decide (chgM (atV (ω.w 0).toL i) = chgM (atV (ω.w 1).toL i))) (px := fun k => [.vb false, .vi k]) (n := (ω.w 0).toL.length)]
    · simp only [hf, F, arg_0, arg_s, scan2_eq chgM _ _ hl, scanR_eq2 chgM _ _ hl, hl']
      by_cases h : (ω.w 0).toL.map chgM = (ω.w 1).toL.map chgM <;> simp [evalTs, evalT, h, den, dens, prim, encR, getV, hf, F, arg_0, arg_s, hl', eqB, scan2_eq chgM _ _ hl, chgsM]
    · intro i hi hb
      have hi' : i < (ω.w 1).toL.length := by omega
      simp only [Bool.not_eq_false', decide_eq_true_eq, chgM_iff] at hb
      simp [hi, hi', upd_at, arI_add1 (show i ≤ 10000000 by omega), getV_0, getV_1, getV_2, getV_3, getV_4, getV_5, getV_6, getV_7, hb]
    · intro i hi hb
      have hi' : i < (ω.w 1).toL.length := by omega
      simp only [Bool.not_eq_true', decide_eq_false_iff_not, chgM_iff] at hb
      simp [hi, hi', upd_at, getV_0, getV_1, getV_2, getV_3, getV_4, getV_5, getV_6, getV_7]
      simpa using hb
    · simp [upd_at]
  · have hl' : ¬ ((ω.w 0).toL.length : Int) = (ω.w 1).toL.length := by omega
    simp [hl', F, arg_0, arg_s, chgsM, eqB, map_ne _ hl, dens, den]
theorem t_spoilC {ω : Opq} (hf : ∀ i a, ω.f i a = F i a) (h : (ω.w 0).toI = (ω.w 1).toL.length) (hn : (ω.w 1).toL.length ≤ 1000000) : evalT T_spoilC ω = some (0, []) := by
  unfold T_spoilC L132
  simp only [evalT, evalTs, dens, den, dB, prim, List.cons_append, List.nil_append]
  rw [iter_loop (fun i => [.vi i, spoilC (ω.w 1) i]) (n := (ω.w 1).toL.length) (j := 0) (p := [.vi (ω.w 1).toL.length, spoilC (ω.w 1) (ω.w 1).toL.length]) (by simp [spoilC])]
  · simp [hf, F, arg_0, arg_s, h, evalTs, evalT, dens]
  · intro i hi
    simp [hi, upd_at, h, arI_add1 (show i ≤ 10000000 by omega), spoilC, spoilC_len, oddC]
  · simp [upd_at, h]
theorem t_less {ω : Opq} : evalT T_less ω = some (0, [F 205 [ω.w 0, ω.w 1, ω.w 2, ω.w 3, ω.w 4, ω.w 5]]) := by
  simp only [T_less, evalT, dens, den, dB, prim, F, arg_0, arg_s, pan3, toB_vb, cmpI_lss, cmpI_gtr, show ∀ a b, cmpS .lss a b = ltBytes a b from fun _ _ => rfl, show ∀ a b, cmpS .gtr a b = ltBytes b a from fun _ _ => rfl, lessM]
  cases h1 : ltBytes (ω.w 0).toS (ω.w 3).toS with
  | true => simp
  | false =>
    cases h2 : ltBytes (ω.w 3).toS (ω.w 0).toS with
    | true =>
      have : ¬ (ω.w 0).toS = (ω.w 3).toS := fun h => by rw [h] at h2; have := ltB_irrefl (ω.w 3).toS; rw [show ltBytes _ _ = ltB _ _ from rfl, this] at h2; cases h2
      simp [this]
    | false =>
      have := ltB_tri h1 h2
      simp only [this, Bool.false_eq_true, if_false, decide_true, Bool.true_and, Bool.false_or]
      by_cases c1 : (ω.w 2).toI < (ω.w 5).toI
      · simp [c1]
      · by_cases c2 : (ω.w 5).toI < (ω.w 2).toI
        · have : ¬ (ω.w 2).toI = (ω.w 5).toI := by omega
          simp [c1, c2, this]
        · have : (ω.w 2).toI = (ω.w 5).toI := by omega
          by_cases c3 : (ω.w 1).toI < (ω.w 4).toI <;> by_cases c4 : (ω.w 4).toI < (ω.w 1).toI <;> simp [this, c3, c4]
theorem t_prim {ω : Opq} : evalT T_prim ω = some (0, [F 206 [ω.w 0, ω.w 1, ω.w 2, ω.w 8, ω.w 9, ω.w 10]]) := by
  simp only [T_prim, prim_0, prim_1, prim_2, prim_3, evalT, dens, den, dB, prim, F, arg_0, arg_s, pan3, toB_vb, cmpI_lss, cmpI_gtr, show ∀ a b, cmpS .lss a b = ltBytes a b from fun _ _ => rfl, show ∀ a b, cmpS .gtr a b = ltBytes b a from fun _ _ => rfl, cmpM]
  by_cases h1 : ltBytes (ω.w 0).toS (ω.w 8).toS = true <;> by_cases h2 : ltBytes (ω.w 8).toS (ω.w 0).toS = true <;> by_cases c1 : (ω.w 2).toI < (ω.w 10).toI <;> by_cases c2 : (ω.w 10).toI < (ω.w 2).toI <;> by_cases c3 : (ω.w 1).toI < (ω.w 9).toI <;> by_cases c4 : (ω.w 9).toI < (ω.w 1).toI <;> simp [h1, h2, c1, c2, c3, c4]
theorem mfind_eq (m : List Val) (k : List Val) : (m.findIdx fun r => keq [.str, .int .i64, .int .i64] r (.vl k)) = idxV m (pan3 k 0) := by
  unfold idxV
  congr 1
  funext r
  rw [Bool.eq_iff_iff, decide_eq_true_iff]
  show (decide ((k.getD 0 default).toS = (r.toL.getD 0 default).toS) && (decide ((k.getD 1 default).toI = (r.toL.getD 1 default).toI) && (decide ((k.getD 2 default).toI = (r.toL.getD 2 default).toI) && true))) = true ↔ _
  simp only [Bool.and_eq_true, decide_eq_true_eq, and_true, paneM, PaneM.mk.injEq, pan3, arg, colV]
  constructor <;> rintro ⟨h1, h2, h3⟩ <;> exact ⟨h1.symm, h2.symm, h3.symm⟩
theorem idx_before {l : List Val} {p : PaneM} {k : Nat} (hk : k < idxV l p) : ¬ paneM (atV l k) = p := by
  have h := List.not_of_lt_findIdx hk
  have hl : k < l.length := Nat.lt_of_lt_of_le hk List.findIdx_le_length
  simp only [decide_eq_false_iff_not] at h
  have e : atV l k = l[k] := by simp [atV, List.getD_eq_getElem?_getD, hl]
  rw [e]; simpa using h
theorem idx_at {l : List Val} {p : PaneM} (h : idxV l p < l.length) : paneM (atV l (idxV l p)) = p := by
  have := List.findIdx_getElem (xs := l) (p := fun r => decide (paneM r = p)) (w := h)
  have e : atV l (idxV l p) = l[idxV l p] := by simp [atV, List.getD_eq_getElem?_getD, h]
  rw [e]; exact of_decide_eq_true this
theorem t_find {ω : Opq} (hf : ∀ i a, ω.f i a = F i a) (hn : (ω.w 0).toL.length ≤ 1000000) : evalT T_find ω = some (0, [getV (F 203 [ω.w 0, ω.w 1, ω.w 2, ω.w 3]).toL 0 0, getV (F 203 [ω.w 0, ω.w 1, ω.w 2, ω.w 3]).toL 0 1, getV (F 203 [ω.w 0, ω.w 1, ω.w 2, ω.w 3]).toL 0 2, getV (F 203 [ω.w 0, ω.w 1, ω.w 2, ω.w 3]).toL 0 3, F 204 [ω.w 0, ω.w 1, ω.w 2, ω.w 3]]) := by
  unfold T_find L135 find_0
  simp only [evalT, evalTs, dens, den, dB, prim, List.cons_append, List.nil_append]
  obtain ⟨p, hp⟩ : ∃ p : PaneM, p = ⟨(ω.w 1).toS, (ω.w 2).toI, (ω.w 3).toI⟩ := ⟨_, rfl⟩
  have hpan : ∀ r : Val, paneM r = p ↔ (colV r 0).toS = (ω.w 1).toS ∧ (colV r 1).toI = (ω.w 2).toI ∧ (colV r 2).toI = (ω.w 3).toI := fun r => by rw [hp]; simp only [paneM, PaneM.mk.injEq]
  by_cases hh : idxV (ω.w 0).toL p < (ω.w 0).toL.length
  · have hat := (hpan _).1 (idx_at hh)
    rw [iter_loop (fun i => [.vb false, .vi i, .vi 0, .vi 0, .vi 0, .vi 0]) (n := idxV (ω.w 0).toL p) (j := 1) (p := (findR (ω.w 0).toL p).2) (by simp)]
    · simp [hf, F, arg_0, arg_s, pan3, ← hp, findR, hasV, hh, evalTs, evalT, den, dens, prim, encR, getV]
    · intro i hi
      have hb := (not_congr (hpan _)).1 (idx_before hi)
      simp [show i < (ω.w 0).toL.length by omega, upd_at, arI_add1 (show i ≤ 10000000 by omega), getV_0, getV_1, getV_2, getV_3, getV_4, getV_5, getV_6]
      simpa using hb
    · simp [hh, upd_at, getV_0, getV_1, getV_2, getV_3, getV_4, getV_5, getV_6, hat, findR, hasV]
  · rw [iter_loop (fun i => [.vb false, .vi i, .vi 0, .vi 0, .vi 0, .vi 0]) (n := (ω.w 0).toL.length) (j := 0) (p := (findR (ω.w 0).toL p).2) (by simp)]
    · simp [hf, F, arg_0, arg_s, pan3, ← hp, findR, hasV, hh, evalTs, evalT, den, dens, prim, encR, getV]
    · intro i hi
      have hb := (not_congr (hpan _)).1 (idx_before (l := (ω.w 0).toL) (p := p) (k := i) (by omega))
      simp [hi, upd_at, arI_add1 (show i ≤ 10000000 by omega), getV_0, getV_1, getV_2, getV_3, getV_4, getV_5, getV_6]
      simpa using hb
    · simp [upd_at, findR, hasV, hh]

theorem evalT_loop {hd : LHd} {body : VT} {ks : List VT} {ω : Opq} {r : Nat × List Val} {out : Option (Nat × List Val)} (h1 : loopOf (fun vs => evalT body (ω.upd hd.v0 vs)) (dens ω hd.s0) = some r) (h2 : ω.f hd.id (dens ω (hd.s0 ++ hd.fv)) = encR r) (h3 : evalTs ks r.1 ω = out) : evalT (.loop hd body ks) ω = out := by
  rw [evalT.eq_5, h1]
  simp only
  rw [if_pos h2, h3]
def LP134 : VT := .loop ⟨134, [.va 2000, .ci 0], 3000, [.ci 0, .op .llen [.va 0], .va 0, .va 2001]⟩ L134 [.ret 0 [.op .lget [.app 134 [.va 2000, .ci 0, .ci 0, .op .llen [.va 0], .va 0, .va 2001], .ci 1, .ci 0], .op (.ar .add .i64) [.va 2001, .ci 1]], .ret 2 [.op .lget [.app 134 [.va 2000, .ci 0, .ci 0, .op .llen [.va 0], .va 0, .va 2001], .ci 1, .ci 0], .va 2001]]
theorem lp134 {ω : Opq} (hf : ∀ i a, ω.f i a = F i a) {i : Nat} (h0 : i < (ω.w 0).toL.length) (hn : (ω.w 0).toL.length ≤ 1000000) (hx : ω.w 2000 = .vb false) (hi : ω.w 2001 = .vi i) :
    evalT LP134 ω = some (if dupV (ω.w 0).toL i then (2, [.vb false, .vi i]) else (0, [.vb false, .vi (i + 1 : Nat)])) := by
  unfold LP134
  refine evalT_loop (r := scanR (.vb false) (fun k => [.vb false, .vi k]) (eqAt (ω.w 0).toL i) i) ?_ ?_ ?_
  · show loopOf _ [ω.w 2000, .vi 0] = _
    rw [hx]
    refine scan_loop ?_ ?_ ?_
    · intro k hk hb
      have hb : ¬ paneM (atV (ω.w 0).toL k) = paneM (atV (ω.w 0).toL i) := of_decide_eq_false hb
      rw [paneM_iff] at hb
      simp [L134, evalT, dens, den, dB, prim, hk, hi, h0, show k < (ω.w 0).toL.length by omega, upd_at, arI_add1 (show k ≤ 10000000 by omega), getV_0, getV_1, getV_2]
      simpa using hb
    · intro k hk hb
      have hb : paneM (atV (ω.w 0).toL k) = paneM (atV (ω.w 0).toL i) := of_decide_eq_true hb
      rw [paneM_iff] at hb
      simp [L134, evalT, dens, den, dB, prim, hk, hi, h0, show k < (ω.w 0).toL.length by omega, upd_at, getV_0, getV_1, getV_2, hb]
    · simp [L134, evalT, dens, den, dB, prim, hi, upd_at]
  · simp [hf, F, dens, den, prim, arg_0, arg_s, hx, hi]
  · have hF : F 134 [.vb false, .vi 0, .vi 0, .vi (ω.w 0).toL.length, ω.w 0, .vi i] = encR (scanR (.vb false) (fun k => [.vb false, .vi k]) (eqAt (ω.w 0).toL i) i) := by simp [F, arg_0, arg_s]
    rw [scanR_find] at hF ⊢
    cases hd : dupV (ω.w 0).toL i with
    | true =>
      have hd' : (List.range i).any (eqAt (ω.w 0).toL i) = true := hd
      rw [hd', if_pos rfl] at hF ⊢
      simp only [evalTs, evalT, dens, den, prim, hf, hx, hi, hF, toI_vi, toL_vl, if_true]
      rfl
    | false =>
      have hd' : (List.range i).any (eqAt (ω.w 0).toL i) = false := hd
      rw [hd', if_neg (by simp)] at hF ⊢
      simp only [evalTs, evalT, dens, den, prim, hf, hx, hi, hF, toI_vi, toL_vl, arI_add1 (show i ≤ 10000000 by omega), Bool.false_eq_true, if_false]
      rfl
theorem t_rowsOk {ω : Opq} (hf : ∀ i a, ω.f i a = F i a) (hn : (ω.w 0).toL.length ≤ 1000000) : evalT T_rowsOk ω = some (0, [F 202 [ω.w 0]]) := by
  unfold T_rowsOk
  have step : ∀ i, i < (ω.w 0).toL.length → evalT L133 (ω.upd 2000 [.vb false, .vi i]) = some (if badV (ω.w 0).toL i then (2, [.vb false, .vi i]) else (0, [.vb false, .vi (i + 1 : Nat)])) := by
    intro i hi
    have hl := lp134 (ω := ω.upd 2000 [.vb false, .vi i]) hf (i := i) (by simpa [upd_at] using hi) (by simpa [upd_at] using hn) (by simp [upd_at]) (by simp [upd_at])
    unfold LP134 at hl
    rw [show (ω.upd 2000 [.vb false, .vi i]).w 0 = ω.w 0 by simp [upd_at]] at hl
    unfold L133
    simp only [evalT.eq_2, evalT.eq_3, evalT.eq_4, hl]
    simp only [dB, dens, den, prim, upd_at, toI_vi, toB_vb, toL_vl, toS_vs]
    simp [hi, getV_3, getV_4, getV_5, getV_6, badV]
    cases hok : okV (atV (ω.w 0).toL i) with
    | true =>
      rw [okV_t] at hok
      obtain ⟨h1, h2⟩ := hok
      cases dupV (ω.w 0).toL i <;> simp <;> (repeat' split) <;> first | rfl | (exfalso; omega) | omega
    | false =>
      rw [okV_f] at hok
      simp
      intro hz
      (repeat' split) <;> first | rfl | (exfalso; omega)
  refine evalT_loop (r := scanR (.vb false) (fun k => [.vb false, .vi k]) (badV (ω.w 0).toL) (ω.w 0).toL.length) ?_ ?_ ?_
  · refine scan_loop (fun i hi hb => ?_) (fun i hi hb => ?_) ?_
    · show evalT L133 (ω.upd 2000 [.vb false, .vi i]) = _
      rw [step i hi, hb]; rfl
    · show evalT L133 (ω.upd 2000 [.vb false, .vi i]) = _
      rw [step i hi, hb]; rfl
    · simp [L133, evalT.eq_2, evalT.eq_4, dB, dens, den, prim, upd_at]
  · simp [hf, F, dens, den, prim, arg_0, arg_s]
  · have hF : F 133 [.vb false, .vi 0, .vi 0, .vi (ω.w 0).toL.length, ω.w 0] = encR (scanR (.vb false) (fun k => [.vb false, .vi k]) (badV (ω.w 0).toL) (ω.w 0).toL.length) := by simp [F, arg_0, arg_s]
    have h2 : F 202 [ω.w 0] = .vb (!(List.range (ω.w 0).toL.length).any (badV (ω.w 0).toL)) := rfl
    rw [h2]
    rw [scanR_find] at hF ⊢
    cases hd : (List.range (ω.w 0).toL.length).any (badV (ω.w 0).toL) with
    | true =>
      rw [hd, if_pos rfl] at hF
      rw [if_pos rfl]
      simp only [evalTs, evalT, dens, den, prim, hf, hF]
      rfl
    | false =>
      rw [if_neg (by simp)]
      rfl
theorem encR_0 (n : Nat) (p : List Val) : getV (encR (n, p)).toL 1 0 = p.getD 0 default := rfl
theorem encR_1 (n : Nat) (p : List Val) : getV (encR (n, p)).toL 1 1 = p.getD 1 default := rfl
theorem encR_2 (n : Nat) (p : List Val) : getV (encR (n, p)).toL 1 2 = p.getD 2 default := rfl
theorem arI_sub1 {K k : Nat} (h : K = k + 1) (h2 : K ≤ 10000000) : arI .sub .i64 (K : Int) 1 = (k : Int) := by
  simp only [arI]
  rw [show (K : Int) - 1 = (k : Int) by omega, wrap_i64] <;> omega
theorem lessV_F (a b : Val) : F 205 [colV a 0, colV a 1, colV a 2, colV b 0, colV b 1, colV b 2] = .vb (lessV a b) := rfl
theorem step137 {ω : Opq} (hf : ∀ i a, ω.f i a = F i a) {i k K : Nat} (hK : K = k + 1) (hKi : K ≤ i) (hi : i ≤ 1000000) (hacc : (ω.w 2002).toL.length = i) {l : List Val} (hl : l.length = i + 1) :
    evalT L137 (ω.upd 3000 [.vi K, .vl l]) = some (if lessV (atV l K) (atV l k) then (0, [.vi k, .vl ((l.set k (norm8 (atV l K))).set K (norm8 (atV l k)))]) else (1, [.vi K, .vl l])) := by
  have e1 := arI_sub1 hK (by omega)
  have p0 : (0 : Int) < K := by omega
  have p1 : (0 : Int) ≤ K := by omega
  have p2 : (K : Int) < ((i + 1 : Nat) : Int) := by omega
  have p3 : (0 : Int) ≤ k := by omega
  have p4 : (k : Int) < ((i + 1 : Nat) : Int) := by omega
  unfold L137
  simp only [evalT, dens, den, dB, prim, upd_at, show (3000 ≤ 3000) = True by simp, show (3000 ≤ 3001) = True by simp, if_true, show 3000 - 3000 = 0 from rfl, show 3001 - 3000 = 1 from rfl, List.getD_cons_zero, List.getD_cons_succ, show (3000 ≤ 2002) = False by simp, show (3000 ≤ 2001) = False by simp, show (3000 ≤ 0) = False by simp, if_false, toI_vi, toL_vl, toB_vb, e1, getV_0, getV_1, getV_2, getV_3, getV_4, getV_5, getV_6, getV_7, upd_f, hf, lessV_F, norm8_r, cmpI_gtr, cmpI_leq, cmpI_lss, List.length_append, List.length_cons, List.length_nil, hacc, hl, List.length_set, p0, p1, p2, p3, p4, decide_true, Bool.and_true, Int.toNat_natCast]
  cases lessV (atV l K) (atV l k) <;> rfl
theorem lp137 {ω : Opq} (hf : ∀ i a, ω.f i a = F i a) {i : Nat} (hi : i ≤ 1000000) (hacc : (ω.w 2002).toL.length = i) : ∀ (k : Nat), k ≤ i → ∀ l : List Val, l.length = i + 1 →
    loopOf (fun vs => evalT L137 (ω.upd 3000 vs)) [.vi k, .vl l] = some (0, [.vi (bub l k).1, .vl (bub l k).2])
  | 0, _, l, hl => by
    rw [loopOf_iff]
    refine .out ?_
    show evalT L137 (ω.upd 3000 [.vi 0, .vl l]) = _
    simp [L137, evalT, dens, den, dB, prim, upd_at, bub]
  | k + 1, hk, l, hl => by
    have hs := step137 hf (K := k + 1) rfl hk hi hacc hl
    rw [loopOf_iff]
    cases hc : lessV (atV l (k + 1)) (atV l k) with
    | true =>
      rw [hc, if_pos rfl] at hs
      have ih := lp137 hf hi hacc k (by omega) (swapV l k) (by rw [swapV_len, hl])
      rw [loopOf_iff] at ih
      refine .more hs ?_
      unfold bub
      rw [hc, if_pos rfl]
      exact ih
    | false =>
      rw [hc, if_neg (by simp)] at hs
      refine .out ?_
      show evalT L137 (ω.upd 3000 [.vi (k + 1 : Nat), .vl l]) = _
      unfold bub
      rw [hc, if_neg (by simp), hs]
theorem step136 {ω : Opq} (hf : ∀ i a, ω.f i a = F i a) {i : Nat} (hi : i < (ω.w 0).toL.length) (hn : (ω.w 0).toL.length ≤ 1000) :
    evalT L136 (ω.upd 2000 [.vi i, .vi i, .vl (isortN (ω.w 0).toL i)]) = some (0, [.vi (i + 1 : Nat), .vi (i + 1 : Nat), .vl (isortN (ω.w 0).toL (i + 1))]) := by
  have hlen := isortN_len (ω.w 0).toL i
  have hlp := lp137 (ω := ω.upd 2000 [.vi i, .vi i, .vl (isortN (ω.w 0).toL i)]) hf (i := i) (by omega) (by simpa [upd_at] using hlen) i (Nat.le_refl _) (isortN (ω.w 0).toL i ++ [norm8 (atV (ω.w 0).toL i)]) (by simp [hlen])
  have hi1 : (i : Int) < ((ω.w 0).toL.length : Int) := by omega
  have hi0 : (0 : Int) ≤ (i : Int) := by omega
  have hb : ((i + 1 : Nat) : Int) ≤ 1000000 := by omega
  unfold L136
  simp only [evalT.eq_2, evalT.eq_3, dB, den, dens, prim, upd_at, show (2000 ≤ 2000) = True by simp, show (2000 ≤ 2001) = True by simp, show (2000 ≤ 2002) = True by simp, if_true, show 2000 - 2000 = 0 from rfl, show 2001 - 2000 = 1 from rfl, show 2002 - 2000 = 2 from rfl, List.getD_cons_zero, List.getD_cons_succ, show (2000 ≤ 0) = False by simp, if_false, toI_vi, toL_vl, toB_vb, cmpI_lss, cmpI_leq, cmpI_eql, hi1, hi0, List.length_append, List.length_cons, List.length_nil, hlen, Nat.zero_add, decide_true, hb, Bool.and_true]
  refine evalT_loop (r := (0, [.vi (bub (isortN (ω.w 0).toL i ++ [norm8 (atV (ω.w 0).toL i)]) i).1, .vl (isortN (ω.w 0).toL (i + 1))])) ?_ ?_ ?_
  · refine Eq.trans (congrArg (loopOf _) ?_) hlp
    simp [dens, den, prim, upd_at, getV_0, getV_1, getV_2, getV_3, getV_4, getV_5, getV_6, getV_7, norm8_r]
  · simp [hf, F, dens, den, prim, arg_0, arg_s, upd_at, upd_f, getV_0, getV_1, getV_2, getV_3, getV_4, getV_5, getV_6, getV_7, norm8_r, isortN]
  · have h2 := isortN_len (ω.w 0).toL (i + 1)
    simp [evalTs, evalT, hf, F, dens, den, dB, prim, arg_0, arg_s, upd_at, upd_f, getV_0, getV_1, getV_2, getV_3, getV_4, getV_5, getV_6, getV_7, norm8_r, encR_1, bub_len, hlen, isortN, arI_add1 (show i ≤ 10000000 by omega)]
theorem t_sortedR {ω : Opq} (hf : ∀ i a, ω.f i a = F i a) (hn : (ω.w 0).toL.length ≤ 1000) : evalT T_sortedR ω = some (0, [F 207 [ω.w 0]]) := by
  unfold T_sortedR sortedR_1 sortedR_0
  have hl := isortN_len (ω.w 0).toL (ω.w 0).toL.length
  refine evalT_loop (r := (0, [.vi (ω.w 0).toL.length, .vi (ω.w 0).toL.length, .vl (isort (ω.w 0).toL)])) ?_ ?_ ?_
  · refine iter_loop (fun i => [.vi i, .vi i, .vl (isortN (ω.w 0).toL i)]) (n := (ω.w 0).toL.length) ?_ (fun i hi => step136 hf hi hn) ?_
    · simp [dens, den, prim, isortN]
    · show evalT L136 (ω.upd 2000 [_, _, _]) = _
      simp [L136, evalT.eq_2, evalT.eq_4, dB, dens, den, prim, upd_at, isort]
  · simp [hf, F, dens, den, prim, arg_0, arg_s]
  · simp [evalTs, evalT, hf, F, dens, den, dB, prim, arg_0, arg_s, encR_0, encR_2, isort, hl]

theorem hasV_any (l : List Val) (p : PaneM) : hasV l p = l.any fun r => decide (paneM r = p) := by
  unfold hasV idxV
  rw [Bool.eq_iff_iff, decide_eq_true_iff, List.findIdx_lt_length, List.any_eq_true]
def g7 (l : List Val) (i : Nat) : List Val := [norm7 (atV l i)]
theorem hasV_gath (l : List Val) (i : Nat) (p : PaneM) : hasV (gath (g7 l) i) p = (List.range i).any fun k => decide (paneM (atV l k) = p) := by
  rw [hasV_any, gath_range, List.any_flatMap]
  congr 1
  funext k
  simp [g7]; rfl
theorem hasV_dup (l : List Val) (i : Nat) : hasV (gath (g7 l) i) (paneM (atV l i)) = dupV l i := by
  rw [hasV_gath]; rfl
theorem gath7_len (l : List Val) (i : Nat) : (gath (g7 l) i).length ≤ i := by simpa using gath_len (g := g7 l) (m := 1) (fun _ => by simp [g7]) i
theorem gath7_map (l : List Val) : gath (g7 l) l.length = l.map norm7 := by
  rw [gath_range]
  show (List.range l.length).flatMap (fun i => [norm7 (atV l i)]) = _
  rw [show (fun i => [norm7 (atV l i)]) = fun i => (fun r => [norm7 r]) (l.getD i (.vl [])) from rfl, flat_range (fun r => [norm7 r]) (.vl []) l]
  exact flat_one _ _
theorem pan3_cols (r : Val) : pan3 [colV r 0, colV r 1, colV r 2] 0 = paneM r := rfl
theorem stepT0 {ω : Opq} (hf : ∀ i a, ω.f i a = F i a) {i : Nat} (hi : i < (ω.w 0).toL.length) (hn : (ω.w 0).toL.length ≤ 1000000) :
    evalT L140 (ω.upd 2000 [.vi i, .vl (gath (g7 (ω.w 0).toL) i)]) = some (if badV (ω.w 0).toL i then (2, [.vi i, .vl (gath (g7 (ω.w 0).toL) i)]) else (0, [.vi (i + 1 : Nat), .vl (gath (g7 (ω.w 0).toL) (i + 1))])) := by
  have hi1 : (i : Int) < ((ω.w 0).toL.length : Int) := by omega
  have hi0 : (0 : Int) ≤ (i : Int) := by omega
  have hd := hasV_dup (ω.w 0).toL i
  unfold hasV at hd
  unfold L140
  simp only [evalT, dens, den, dB, prim, upd_at, show (2000 ≤ 2000) = True by simp, show (2000 ≤ 2001) = True by simp, if_true, show 2000 - 2000 = 0 from rfl, show 2001 - 2000 = 1 from rfl, List.getD_cons_zero, List.getD_cons_succ, show (2000 ≤ 0) = False by simp, if_false, toI_vi, toL_vl, toB_vb, cmpI_lss, cmpI_leq, cmpI_eql, cmpI_gtr, hi1, hi0, decide_true, mfind_eq, getV_0, getV_1, getV_2, getV_3, getV_4, getV_5, getV_6, pan3_cols, dec_i, hd, norm7_r, arI_add1 (show i ≤ 10000000 by omega), badV]
  rcases Bool.eq_false_or_eq_true (dupV (ω.w 0).toL i) with hdup | hdup
  · simp [hdup]
  · rcases Bool.eq_false_or_eq_true (okV (atV (ω.w 0).toL i)) with hok | hok
    · obtain ⟨h1, h2⟩ := (okV_t _).1 hok
      simp only [hdup, hok, gath, g7, Bool.false_eq_true, if_false, cond_false, Bool.not_true, Bool.or_false, decide_eq_true_eq, Bool.and_eq_true, Bool.not_eq_true', Bool.and_eq_false_iff, decide_eq_false_iff_not, Bool.true_eq_false, false_or]
      (repeat' split) <;> first | rfl | (exfalso; omega)
    · have h1 := (okV_f _).1 hok
      simp only [hdup, hok, gath, g7, Bool.false_eq_true, if_false, cond_false, Bool.not_false, Bool.or_false, if_true, decide_eq_true_eq, Bool.and_eq_true, Bool.not_eq_true', Bool.and_eq_false_iff, decide_eq_false_iff_not, Bool.true_eq_false, false_or]
      (repeat' split) <;> first | rfl | (exfalso; omega)
theorem tab0 {ω : Opq} (hf : ∀ i a, ω.f i a = F i a) (hn : (ω.w 0).toL.length ≤ 1000000) : loopOf (fun vs => evalT L140 (ω.upd 2000 vs)) [.vi 0, .vl []] = some (tabR (ω.w 0).toL) := by
  have st : ∀ i, i < (ω.w 0).toL.length → badV (ω.w 0).toL i = false → evalT L140 (ω.upd 2000 [.vi i, .vl (gath (g7 (ω.w 0).toL) i)]) = some (0, [.vi (i + 1 : Nat), .vl (gath (g7 (ω.w 0).toL) (i + 1))]) := fun i hi hb => by rw [stepT0 hf hi hn, hb]; rfl
  unfold tabR
  split
  · rename_i k hk
    obtain ⟨a, b, c⟩ := find_range hk
    exact iter_loop (fun i => [.vi i, .vl (gath (g7 (ω.w 0).toL) i)]) (n := k) (by simp [gath]) (fun i hi => st i (by omega) (c i hi)) (by
      show evalT L140 (ω.upd 2000 [.vi k, .vl (gath (g7 (ω.w 0).toL) k)]) = _
      rw [stepT0 hf a hn, b]; rfl)
  · rename_i hk
    rw [List.find?_range_eq_none] at hk
    exact iter_loop (fun i => [.vi i, .vl (gath (g7 (ω.w 0).toL) i)]) (n := (ω.w 0).toL.length) (by simp [gath]) (fun i hi => st i hi (by simpa using hk i hi)) (by
      show evalT L140 (ω.upd 2000 [.vi (ω.w 0).toL.length, .vl (gath (g7 (ω.w 0).toL) (ω.w 0).toL.length)]) = _
      simp [L140, evalT.eq_2, evalT.eq_4, dB, dens, den, prim, upd_at]; rfl)
theorem stepT1 {ω : Opq} (hf : ∀ i a, ω.f i a = F i a) {i : Nat} (hi : i < (ω.w 1).toL.length) (hn : (ω.w 1).toL.length ≤ 1000000) :
    evalT L140_1 (ω.upd 2000 [.vi i, .vl (gath (g7 (ω.w 1).toL) i)]) = some (if badV (ω.w 1).toL i then (2, [.vi i, .vl (gath (g7 (ω.w 1).toL) i)]) else (0, [.vi (i + 1 : Nat), .vl (gath (g7 (ω.w 1).toL) (i + 1))])) := by
  have hi1 : (i : Int) < ((ω.w 1).toL.length : Int) := by omega
  have hi0 : (0 : Int) ≤ (i : Int) := by omega
  have hd := hasV_dup (ω.w 1).toL i
  unfold hasV at hd
  unfold L140_1
  simp only [evalT, dens, den, dB, prim, upd_at, show (2000 ≤ 2000) = True by simp, show (2000 ≤ 2001) = True by simp, if_true, show 2000 - 2000 = 0 from rfl, show 2001 - 2000 = 1 from rfl, List.getD_cons_zero, List.getD_cons_succ, show (2000 ≤ 1) = False by simp, if_false, toI_vi, toL_vl, toB_vb, cmpI_lss, cmpI_leq, cmpI_eql, cmpI_gtr, hi1, hi0, decide_true, mfind_eq, getV_0, getV_1, getV_2, getV_3, getV_4, getV_5, getV_6, pan3_cols, dec_i, hd, norm7_r, arI_add1 (show i ≤ 10000000 by omega), badV]
  rcases Bool.eq_false_or_eq_true (dupV (ω.w 1).toL i) with hdup | hdup
  · simp [hdup]
  · rcases Bool.eq_false_or_eq_true (okV (atV (ω.w 1).toL i)) with hok | hok
    · obtain ⟨h1, h2⟩ := (okV_t _).1 hok
      simp only [hdup, hok, gath, g7, Bool.false_eq_true, if_false, cond_false, Bool.not_true, Bool.or_false, decide_eq_true_eq, Bool.and_eq_true, Bool.not_eq_true', Bool.and_eq_false_iff, decide_eq_false_iff_not, Bool.true_eq_false, false_or]
      (repeat' split) <;> first | rfl | (exfalso; omega)
    · have h1 := (okV_f _).1 hok
      simp only [hdup, hok, gath, g7, Bool.false_eq_true, if_false, cond_false, Bool.not_false, Bool.or_false, if_true, decide_eq_true_eq, Bool.and_eq_true, Bool.not_eq_true', Bool.and_eq_false_iff, decide_eq_false_iff_not, Bool.true_eq_false, false_or]
      (repeat' split) <;> first | rfl | (exfalso; omega)
theorem tab1 {ω : Opq} (hf : ∀ i a, ω.f i a = F i a) (hn : (ω.w 1).toL.length ≤ 1000000) : loopOf (fun vs => evalT L140_1 (ω.upd 2000 vs)) [.vi 0, .vl []] = some (tabR (ω.w 1).toL) := by
  have st : ∀ i, i < (ω.w 1).toL.length → badV (ω.w 1).toL i = false → evalT L140_1 (ω.upd 2000 [.vi i, .vl (gath (g7 (ω.w 1).toL) i)]) = some (0, [.vi (i + 1 : Nat), .vl (gath (g7 (ω.w 1).toL) (i + 1))]) := fun i hi hb => by rw [stepT1 hf hi hn, hb]; rfl
  unfold tabR
  split
  · rename_i k hk
    obtain ⟨a, b, c⟩ := find_range hk
    exact iter_loop (fun i => [.vi i, .vl (gath (g7 (ω.w 1).toL) i)]) (n := k) (by simp [gath]) (fun i hi => st i (by omega) (c i hi)) (by
      show evalT L140_1 (ω.upd 2000 [.vi k, .vl (gath (g7 (ω.w 1).toL) k)]) = _
      rw [stepT1 hf a hn, b]; rfl)
  · rename_i hk
    rw [List.find?_range_eq_none] at hk
    exact iter_loop (fun i => [.vi i, .vl (gath (g7 (ω.w 1).toL) i)]) (n := (ω.w 1).toL.length) (by simp [gath]) (fun i hi => st i hi (by simpa using hk i hi)) (by
      show evalT L140_1 (ω.upd 2000 [.vi (ω.w 1).toL.length, .vl (gath (g7 (ω.w 1).toL) (ω.w 1).toL.length)]) = _
      simp [L140_1, evalT.eq_2, evalT.eq_4, dB, dens, den, prim, upd_at]; rfl)
theorem idxV_map (l : List Val) (p : PaneM) : idxV (l.map norm7) p = idxV l p := by
  unfold idxV
  rw [List.findIdx_map]; rfl
theorem hasV_map (l : List Val) (p : PaneM) : hasV (l.map norm7) p = hasV l p := by
  unfold hasV
  rw [idxV_map, List.length_map]
theorem deadG_map (l : List Val) : deadG (l.map norm7) = deadG l := by
  funext r; unfold deadG; rw [hasV_map]
theorem atV_map7 {l : List Val} {i : Nat} (h : i < l.length) : atV (l.map norm7) i = norm7 (atV l i) := by
  simp [atV, List.getD_eq_getElem?_getD, h]
theorem putG_map (l : List Val) : putG (l.map norm7) = putG l := by
  funext r
  unfold putG
  rw [hasV_map, idxV_map]
  cases h : hasV l (paneM r) with
  | false => rfl
  | true =>
    rw [atV_map7 (of_decide_eq_true h)]; rfl
theorem deadG_len (m : List Val) (r : Val) : (deadG m r).length ≤ 1 := by
  unfold deadG; cases hasV m (paneM r) <;> simp
theorem putG_len (m : List Val) (r : Val) : (putG m r).length ≤ 1 := by
  unfold putG; cases (hasV m (paneM r) && aggEq (atV m (idxV m (paneM r))) r) <;> simp

theorem F140 (a b c d e x g : Val) : F 140 [a, b, c, d, e, x, g] = encR (tabR x.toL) := rfl
theorem tabR_ok {l : List Val} (h : rowsOkV l = true) : tabR l = (0, [.vi l.length, .vl (l.map norm7)]) := by
  unfold tabR
  have : (List.range l.length).find? (badV l) = none := by
    rw [List.find?_range_eq_none]
    intro i hi
    unfold rowsOkV at h
    rw [Bool.not_eq_true', List.any_eq_false] at h
    have := h i (List.mem_range.2 hi)
    simpa using this
  rw [this]
  show (0, [Val.vi l.length, Val.vl (gath (g7 l) l.length)]) = _
  rw [gath7_map]
theorem tabR_bad {l : List Val} (h : rowsOkV l = false) : (tabR l).1 = 1 := by
  unfold tabR
  split
  · rfl
  · rename_i hk
    rw [List.find?_range_eq_none] at hk
    have h2 : (List.range l.length).any (badV l) = true := by
      unfold rowsOkV at h
      simpa using h
    rw [List.any_eq_true] at h2
    obtain ⟨i, h3, h4⟩ := h2
    have := hk i (List.mem_range.1 h3)
    rw [h4] at this
    cases this
theorem deadV_r (r : Val) : Val.vl [colV r 0, colV r 1, colV r 2, .vb true, .vi 0, .vi 0, .vi 0, .vi 0] = deadV r := rfl
theorem putV_r (r : Val) : Val.vl [colV r 0, colV r 1, colV r 2, .vb false, colV r 3, colV r 4, colV r 5, colV r 6] = putV r := rfl
theorem tab_get {l : List Val} (h : rowsOkV l = true) : getV (encR (tabR l)).toL 1 1 = .vl (l.map norm7) := by
  rw [tabR_ok h]; rfl
theorem step141 {ω : Opq} (hf : ∀ i a, ω.f i a = F i a) (ok : rowsOkV (ω.w 1).toL = true) {i : Nat} (hi : i < (ω.w 0).toL.length) (hn : (ω.w 0).toL.length ≤ 100) {acc : List Val} (ha : acc.length ≤ 1000) :
    evalT L141 (ω.upd 2000 [.vi acc.length, .vi i, .vl acc]) = some (0, [.vi (acc ++ deadG ((ω.w 1).toL.map norm7) (atV (ω.w 0).toL i)).length, .vi (i + 1 : Nat), .vl (acc ++ deadG ((ω.w 1).toL.map norm7) (atV (ω.w 0).toL i))]) := by
  have hi1 : (i : Int) < ((ω.w 0).toL.length : Int) := by omega
  have hi0 : (0 : Int) ≤ (i : Int) := by omega
  have hb : ((acc.length + 1 : Nat) : Int) ≤ 1000000 := by omega
  unfold L141
  simp only [evalT, dens, den, dB, prim, upd_at, show (2000 ≤ 2000) = True by simp, show (2000 ≤ 2001) = True by simp, show (2000 ≤ 2002) = True by simp, if_true, show 2000 - 2000 = 0 from rfl, show 2001 - 2000 = 1 from rfl, show 2002 - 2000 = 2 from rfl, List.getD_cons_zero, List.getD_cons_succ, show (2000 ≤ 0) = False by simp, show (2000 ≤ 1) = False by simp, if_false, toI_vi, toL_vl, toB_vb, cmpI_lss, cmpI_leq, cmpI_eql, cmpI_gtr, hi1, hi0, decide_true, upd_f, hf, F140, tab_get ok, mfind_eq, getV_0, getV_1, getV_2, getV_3, getV_4, getV_5, getV_6, pan3_cols, dec_i, deadV_r, arI_add1 (show i ≤ 10000000 by omega), List.length_append, List.length_cons, List.length_nil, Nat.zero_add, hb, Bool.and_true, deadG]
  rcases Bool.eq_false_or_eq_true (hasV ((ω.w 1).toL.map norm7) (paneM (atV (ω.w 0).toL i))) with hh | hh
  · have h2 := of_decide_eq_true hh
    rw [List.length_map] at h2
    simp [hh, h2]
  · have h2 := of_decide_eq_false hh
    rw [List.length_map] at h2
    simp [hh, h2]
    try omega
theorem step142 {ω : Opq} (hf : ∀ i a, ω.f i a = F i a) (ok : rowsOkV (ω.w 0).toL = true) {i : Nat} (hi : i < (ω.w 1).toL.length) (hn : (ω.w 1).toL.length ≤ 100) {acc : List Val} (ha : acc.length ≤ 1000) :
    evalT L142 (ω.upd 2000 [.vi acc.length, .vi i, .vl acc]) = some (0, [.vi (acc ++ putG ((ω.w 0).toL.map norm7) (atV (ω.w 1).toL i)).length, .vi (i + 1 : Nat), .vl (acc ++ putG ((ω.w 0).toL.map norm7) (atV (ω.w 1).toL i))]) := by
  have hi1 : (i : Int) < ((ω.w 1).toL.length : Int) := by omega
  have hi0 : (0 : Int) ≤ (i : Int) := by omega
  have hb : ((acc.length + 1 : Nat) : Int) ≤ 1000000 := by omega
  unfold L142
  simp only [evalT, dens, den, dB, prim, upd_at, show (2000 ≤ 2000) = True by simp, show (2000 ≤ 2001) = True by simp, show (2000 ≤ 2002) = True by simp, if_true, show 2000 - 2000 = 0 from rfl, show 2001 - 2000 = 1 from rfl, show 2002 - 2000 = 2 from rfl, List.getD_cons_zero, List.getD_cons_succ, show (2000 ≤ 0) = False by simp, show (2000 ≤ 1) = False by simp, if_false, toI_vi, toL_vl, toB_vb, cmpI_lss, cmpI_leq, cmpI_eql, cmpI_gtr, hi1, hi0, decide_true, upd_f, hf, F140, tab_get ok, mfind_eq, getV_0, getV_1, getV_2, getV_3, getV_4, getV_5, getV_6, pan3_cols, dec_i, putV_r, arI_add1 (show i ≤ 10000000 by omega), List.length_append, List.length_cons, List.length_nil, Nat.zero_add, hb, Bool.and_true, putG]
  rcases Bool.eq_false_or_eq_true (hasV ((ω.w 0).toL.map norm7) (paneM (atV (ω.w 1).toL i))) with hh | hh
  · have h2 := of_decide_eq_true hh
    rcases Bool.eq_false_or_eq_true (aggEq (atV ((ω.w 0).toL.map norm7) (idxV ((ω.w 0).toL.map norm7) (paneM (atV (ω.w 1).toL i)))) (atV (ω.w 1).toL i)) with ha' | ha'
    · have h3 := of_decide_eq_true ha'
      simp only [hh, h2, ha', h3, decide_true, Bool.not_true, Bool.false_eq_true, if_false, cond_true, Bool.and_true, Bool.and_self, List.append_nil]
      rfl
    · have h3 := of_decide_eq_false ha'
      simp only [hh, h2, ha', decide_true, Bool.not_true, Bool.false_eq_true, if_false, cond_true, cond_false, Bool.and_false]
      rw [if_pos (by rw [Bool.not_eq_true', ← Bool.not_eq_true]; intro hcc; exact h3 (by simpa using hcc))]
      simp
  · have h2 := of_decide_eq_false hh
    rw [List.length_map] at h2
    simp [hh, h2]
    try omega
theorem gath_lim {g : Nat → List Val} (hg : ∀ i, (g i).length ≤ 1) (a0 : List Val) {i n : Nat} (hi : i ≤ n) : (a0 ++ gath g i).length ≤ a0.length + n := by
  have := gath_len (m := 1) hg i
  rw [List.length_append]; omega
theorem loop141 {ω : Opq} (hf : ∀ i a, ω.f i a = F i a) (ok : rowsOkV (ω.w 1).toL = true) (hn : (ω.w 0).toL.length ≤ 100) {d : List Val} (hd : d = gathF [] (deadG ((ω.w 1).toL.map norm7)) (ω.w 0).toL) :
    loopOf (fun vs => evalT L141 (ω.upd 2000 vs)) [.vi 0, .vi 0, .vl []] = some (0, [.vi d.length, .vi (ω.w 0).toL.length, .vl d]) := by
  subst hd
  refine gath_loop (fun i acc => [.vi acc.length, .vi i, .vl acc]) (a0 := []) (g := fun i => deadG ((ω.w 1).toL.map norm7) (atV (ω.w 0).toL i)) (n := (ω.w 0).toL.length) rfl (fun i hi => ?_) ?_
  · exact step141 hf ok hi hn (Nat.le_trans (gath_lim (fun _ => deadG_len _ _) [] (Nat.le_of_lt hi)) (by simp; omega))
  · show evalT L141 (ω.upd 2000 [_, _, _]) = _
    simp [L141, evalT.eq_2, evalT.eq_4, dB, dens, den, prim, upd_at, gathF]
theorem loop142 {ω : Opq} (hf : ∀ i a, ω.f i a = F i a) (ok : rowsOkV (ω.w 0).toL = true) (hn : (ω.w 1).toL.length ≤ 100) {d0 d : List Val} (h0 : d0.length ≤ 100) (hd : d = gathF d0 (putG ((ω.w 0).toL.map norm7)) (ω.w 1).toL) :
    loopOf (fun vs => evalT L142 (ω.upd 2000 vs)) [.vi d0.length, .vi 0, .vl d0] = some (0, [.vi d.length, .vi (ω.w 1).toL.length, .vl d]) := by
  subst hd
  refine gath_loop (fun i acc => [.vi acc.length, .vi i, .vl acc]) (a0 := d0) (g := fun i => putG ((ω.w 0).toL.map norm7) (atV (ω.w 1).toL i)) (n := (ω.w 1).toL.length) rfl (fun i hi => ?_) ?_
  · exact step142 hf ok hi hn (Nat.le_trans (gath_lim (fun _ => putG_len _ _) d0 (Nat.le_of_lt hi)) (by omega))
  · show evalT L142 (ω.upd 2000 [_, _, _]) = _
    simp [L142, evalT.eq_2, evalT.eq_4, dB, dens, den, prim, upd_at, gathF]
theorem gathF_eq (a0 : List Val) (g : Val → List Val) (l : List Val) : gathF a0 g l = a0 ++ l.flatMap g := by
  unfold gathF
  rw [gath_range]
  congr 1
  exact flat_range g (.vl []) l
theorem flatMap_le {g : Val → List Val} (hg : ∀ r, (g r).length ≤ 1) : ∀ l : List Val, (l.flatMap g).length ≤ l.length
  | [] => Nat.le_refl _
  | a :: l => by
    have := flatMap_le hg l
    have := hg a
    rw [List.flatMap_cons, List.length_append, List.length_cons]; omega
theorem diffs_len (a b : List Val) : (diffs a b).length ≤ a.length + b.length := by
  have h1 := flatMap_le (deadG_len b) a
  have h2 := flatMap_le (putG_len a) b
  unfold diffs
  rw [List.length_append]; omega
/-- Panes of what is told. -/
theorem rowsOk_nodup {l : List Val} (h : rowsOkV l = true) : (l.map paneM).Nodup := by
  unfold rowsOkV at h
  rw [Bool.not_eq_true', List.any_eq_false] at h
  rw [List.Nodup, List.pairwise_iff_getElem]
  intro i j hi hj hij
  simp only [List.length_map] at hi hj
  have := h j (List.mem_range.2 hj)
  rw [Bool.not_eq_true, badV, Bool.or_eq_false_iff] at this
  have hd := this.2
  unfold dupV at hd
  rw [List.any_eq_false] at hd
  have := hd i (List.mem_range.2 hij)
  have e1 : atV l i = l[i] := by simp [atV, List.getD_eq_getElem?_getD, hi]
  have e2 : atV l j = l[j] := by simp [atV, List.getD_eq_getElem?_getD, hj]
  rw [Bool.not_eq_true, eqAt, decide_eq_false_iff_not, e1, e2] at this
  simpa using this
theorem sub_panes {g : Val → List Val} (hg : ∀ r, g r = [] ∨ ∃ x, g r = [x] ∧ paneM x = paneM r) : ∀ l : List Val, ((l.flatMap g).map paneM).Sublist (l.map paneM)
  | [] => .refl _
  | a :: l => by
    rw [List.flatMap_cons, List.map_append, List.map_cons]
    rcases hg a with h | ⟨x, h, hp⟩
    · rw [h]; exact (sub_panes hg l).cons _
    · rw [h, List.map_cons, hp]; exact (sub_panes hg l).cons_cons _
theorem deadG_cases (b : List Val) (r : Val) : deadG b r = [] ∨ ∃ x, deadG b r = [x] ∧ paneM x = paneM r := by
  unfold deadG
  cases hasV b (paneM r) with
  | true => exact .inl rfl
  | false => exact .inr ⟨_, rfl, rfl⟩
theorem putG_cases (a : List Val) (r : Val) : putG a r = [] ∨ ∃ x, putG a r = [x] ∧ paneM x = paneM r := by
  unfold putG
  cases (hasV a (paneM r) && aggEq (atV a (idxV a (paneM r))) r) with
  | true => exact .inl rfl
  | false => exact .inr ⟨_, rfl, rfl⟩
theorem diffs_nodup {a b : List Val} (ha : rowsOkV a = true) (hb : rowsOkV b = true) : ((diffs a b).map paneM).Nodup := by
  unfold diffs
  rw [List.map_append, List.nodup_append]
  refine ⟨(sub_panes (deadG_cases b) a).nodup (rowsOk_nodup ha), (sub_panes (putG_cases a) b).nodup (rowsOk_nodup hb), ?_⟩
  intro p hp q hq
  rw [List.mem_map] at hp
  obtain ⟨x, hx, rfl⟩ := hp
  rw [List.mem_flatMap] at hx
  obtain ⟨r, hr, hx⟩ := hx
  have hq2 := (sub_panes (putG_cases a) b).subset hq
  rw [List.mem_map] at hq2
  obtain ⟨y, hy, rfl⟩ := hq2
  unfold deadG at hx
  cases hh : hasV b (paneM r) with
  | true => rw [hh] at hx; cases hx
  | false =>
    rw [hh] at hx
    have hx : x = deadV r := by simpa using hx
    intro e
    rw [hasV_any, List.any_eq_false] at hh
    have := hh y hy
    rw [Bool.not_eq_true, decide_eq_false_iff_not] at this
    exact this (e.symm.trans (by rw [hx]; rfl))
theorem diffs_norm (a b : List Val) : ∀ x ∈ diffs a b, norm8 x = x := by
  intro x hx
  unfold diffs at hx
  rw [List.mem_append, List.mem_flatMap, List.mem_flatMap] at hx
  rcases hx with ⟨r, _, hx⟩ | ⟨r, _, hx⟩
  · unfold deadG at hx
    cases h : hasV b (paneM r) with
    | true => rw [h] at hx; cases hx
    | false =>
      rw [h] at hx
      have hx : x = deadV r := by simpa using hx
      rw [hx]; rfl
  · unfold putG at hx
    cases h : (hasV a (paneM r) && aggEq (atV a (idxV a (paneM r))) r) with
    | true => rw [h] at hx; cases hx
    | false =>
      rw [h] at hx
      have hx : x = putV r := by simpa using hx
      rw [hx]; rfl
theorem diffs_sort {a b : List Val} (ha : rowsOkV a = true) (hb : rowsOkV b = true) : sortV cfV (diffs a b) = isort (diffs a b) := sortV_isort (diffs_norm a b) (diffs_nodup ha hb)
theorem F141 (a b c d e x m m1 y z v w : Val) : F 141 [a, b, c, d, e, x, m, m1, y, z, v, w] = gathR [] (deadG m1.toL) v.toL := rfl
theorem F142 (a b c m d e x y : Val) : F 142 [a, b, c, m, d, e, x, y] = gathR c.toL (putG m.toL) x.toL := rfl
theorem F143 (a b c d e v x y m : Val) : F 143 [a, b, c, d, e, v, x, y, m] = gathR [] (deadG m.toL) v.toL := rfl
theorem F144 (a b c d e m x y v : Val) : F 144 [a, b, c, d, e, m, x, y, v] = gathR c.toL (putG m.toL) v.toL := rfl
theorem gathR_2 (a0 : List Val) (g : Val → List Val) (l : List Val) : getV (gathR a0 g l).toL 1 2 = .vl (gathF a0 g l) := rfl
theorem gathR_0 (a0 : List Val) (g : Val → List Val) (l : List Val) : getV (gathR a0 g l).toL 1 0 = .vi (gathF a0 g l).length := rfl
theorem diffs_gath (a b : List Val) : gathF (gathF [] (deadG b) a) (putG a) b = diffs a b := by
  rw [gathF_eq, gathF_eq, List.nil_append]; rfl
theorem t_diff {ω : Opq} (hf : ∀ i a, ω.f i a = F i a) (hn0 : (ω.w 0).toL.length ≤ 100) (hn1 : (ω.w 1).toL.length ≤ 100) : evalT T_diff ω = some (0, [F 209 [ω.w 0, ω.w 1], F 208 [ω.w 0, ω.w 1]]) := by
  have h209 : F 209 [ω.w 0, ω.w 1] = .vi (bif rowsOkV (ω.w 0).toL && rowsOkV (ω.w 1).toL then 0 else 2) := rfl
  have h208 : F 208 [ω.w 0, ω.w 1] = .vl (bif rowsOkV (ω.w 0).toL && rowsOkV (ω.w 1).toL then isort (diffs (ω.w 0).toL (ω.w 1).toL) else []) := rfl
  rw [h209, h208]
  unfold T_diff
  refine evalT_loop (tab0 hf (by omega)) (by rw [hf]; rfl) ?_
  rcases Bool.eq_false_or_eq_true (rowsOkV (ω.w 0).toL) with k0 | k0
  · rw [tabR_ok k0, k0, Bool.true_and]
    show evalT (.loop _ L140_1 _) ω = _
    refine evalT_loop (tab1 hf (by omega)) (by rw [hf]; rfl) ?_
    rcases Bool.eq_false_or_eq_true (rowsOkV (ω.w 1).toL) with k1 | k1
    · rw [tabR_ok k1, k1]
      show evalT (.loop _ L141 _) ω = _
      have e0 : den ω diff_0 = .vl ((ω.w 0).toL.map norm7) := by
        show getV (ω.f 140 _).toL 1 1 = _
        rw [hf]; exact tab_get k0
      have e1 : den ω diff_1 = .vl ((ω.w 1).toL.map norm7) := by
        show getV (ω.f 140 _).toL 1 1 = _
        rw [hf]; exact tab_get k1
      obtain ⟨d, hd⟩ : ∃ d, d = gathF [] (deadG ((ω.w 1).toL.map norm7)) (ω.w 0).toL := ⟨_, rfl⟩
      have e2 : den ω diff_2 = gathR [] (deadG ((ω.w 1).toL.map norm7)) (ω.w 0).toL := by
        show ω.f 141 [_, _, _, _, _, _, den ω diff_0, den ω diff_1, _, _, _, _] = _
        rw [hf, F141, e1]; rfl
      have e3 : den ω diff_3 = .vl d := by
        show getV (den ω diff_2).toL 1 2 = _
        rw [e2, gathR_2, hd]
      have dl : d.length ≤ 100 := by
        rw [hd, gathF_eq, List.nil_append]
        have := flatMap_le (deadG_len ((ω.w 1).toL.map norm7)) (ω.w 0).toL
        omega
      refine evalT_loop (loop141 hf k1 hn0 hd) (by
        show ω.f 141 [_, _, _, _, _, _, den ω diff_0, den ω diff_1, _, _, _, _] = _
        rw [hf, F141, e1, hd]; rfl) ?_
      show evalT (.need _ _) ω = _
      rw [evalT.eq_3, if_pos (by
        show decide ((getV (den ω diff_2).toL 1 0).toI = ((den ω diff_3).toL.length : Int)) = true
        rw [e2, e3, gathR_0, hd]; simp)]
      obtain ⟨q, hq⟩ : ∃ q, q = gathF d (putG ((ω.w 0).toL.map norm7)) (ω.w 1).toL := ⟨_, rfl⟩
      have hqd : q = diffs (ω.w 0).toL (ω.w 1).toL := by
        rw [hq, hd, putG_map, deadG_map, diffs_gath]
      have e4 : den ω diff_4 = gathR d (putG ((ω.w 0).toL.map norm7)) (ω.w 1).toL := by
        show ω.f 142 [_, _, den ω diff_3, den ω diff_0, _, _, _, _] = _
        rw [hf, F142, e3, e0]; rfl
      have e5 : den ω diff_5 = .vi q.length := by
        show getV (den ω diff_4).toL 1 0 = _
        rw [e4, gathR_0, hq]
      have e6 : den ω diff_6 = .vl q := by
        show getV (den ω diff_4).toL 1 2 = _
        rw [e4, gathR_2, hq]
      have ql : q.length ≤ 200 := by
        have := diffs_len (ω.w 0).toL (ω.w 1).toL
        rw [hqd]; omega
      have hs : ω.f 211 [.vl q] = .vl (isort q) := by
        rw [hf]
        show Val.vl (sortV cfV q) = _
        rw [hqd, diffs_sort k0 k1]
      refine evalT_loop (r := (0, [.vi q.length, .vi (ω.w 1).toL.length, .vl q])) (by
        show loopOf _ [.vi (den ω diff_3).toL.length, .vi 0, den ω diff_3] = _
        rw [e3]; exact loop142 hf k0 hn1 dl hq) (by
        show ω.f 142 [_, _, den ω diff_3, den ω diff_0, _, _, _, _] = _
        rw [hf, F142, e3, e0, hq]; rfl) ?_
      show evalT (.need _ _) ω = _
      rw [evalT.eq_3, if_pos (by
        show (decide ((den ω diff_5).toI = ((den ω diff_6).toL.length : Int)) && decide (((den ω diff_6).toL.length : Int) ≤ 1000000)) = true
        rw [e5, e6, Bool.and_eq_true]
        exact ⟨decide_eq_true rfl, decide_eq_true (by show (q.length : Int) ≤ 1000000; omega)⟩), evalT.eq_3, if_pos (by
        show decide ((den ω diff_5).toI = ((ω.f 211 [den ω diff_6]).toL.length : Int)) = true
        rw [e5, e6, hs]
        have := (isort_perm q).length_eq
        rw [List.length_map] at this
        simp [this])]
      show some (0, [Val.vi 0, ω.f 211 [den ω diff_6]]) = _
      rw [e6, hs, hqd]; rfl
    · have := tabR_bad k1
      rw [this, k1]; rfl
  · have := tabR_bad k0
    rw [this, k0]
    show evalT (.loop _ L140_1 _) ω = _
    refine evalT_loop (tab1 hf (by omega)) (by rw [hf]; rfl) ?_
    rcases Bool.eq_false_or_eq_true (rowsOkV (ω.w 1).toL) with k1 | k1
    · rw [tabR_ok k1]; rfl
    · rw [tabR_bad k1]; rfl

theorem F204 (m r : Val) : F 204 [m, colV r 0, colV r 1, colV r 2] = .vb (hasV m.toL (paneM r)) := rfl
theorem F203 (m r : Val) : F 203 [m, colV r 0, colV r 1, colV r 2] = .vl [.vl ((findR m.toL (paneM r)).2.drop 2)] := rfl
theorem step143 {ω : Opq} (hf : ∀ i a, ω.f i a = F i a) {i : Nat} (hi : i < (ω.w 0).toL.length) (hn : (ω.w 0).toL.length ≤ 100) (hm : (ω.w 1).toL.length ≤ 100) {acc : List Val} (ha : acc.length ≤ 1000) :
    evalT L143 (ω.upd 2000 [.vi acc.length, .vi i, .vl acc]) = some (0, [.vi (acc ++ deadG (ω.w 1).toL (atV (ω.w 0).toL i)).length, .vi (i + 1 : Nat), .vl (acc ++ deadG (ω.w 1).toL (atV (ω.w 0).toL i))]) := by
  have hi1 : (i : Int) < ((ω.w 0).toL.length : Int) := by omega
  have hi0 : (0 : Int) ≤ (i : Int) := by omega
  have hb : ((acc.length + 1 : Nat) : Int) ≤ 1000000 := by omega
  have hm1 : ((ω.w 1).toL.length : Int) ≤ 1000000 := by omega
  unfold L143
  simp only [evalT, dens, den, dB, prim, upd_at, show (2000 ≤ 2000) = True by simp, show (2000 ≤ 2001) = True by simp, show (2000 ≤ 2002) = True by simp, if_true, show 2000 - 2000 = 0 from rfl, show 2001 - 2000 = 1 from rfl, show 2002 - 2000 = 2 from rfl, List.getD_cons_zero, List.getD_cons_succ, show (2000 ≤ 0) = False by simp, show (2000 ≤ 1) = False by simp, if_false, toI_vi, toL_vl, toB_vb, cmpI_lss, cmpI_leq, cmpI_eql, cmpI_gtr, hi1, hi0, hm1, decide_true, upd_f, hf, F204, getV_0, getV_1, getV_2, getV_3, getV_4, getV_5, getV_6, dec_i, deadV_r, arI_add1 (show i ≤ 10000000 by omega), List.length_append, List.length_cons, List.length_nil, Nat.zero_add, hb, Bool.and_true, deadG]
  rcases Bool.eq_false_or_eq_true (hasV (ω.w 1).toL (paneM (atV (ω.w 0).toL i))) with hh | hh <;> simp [hh]
theorem getV_00 (x : Val) (l : List Val) : getV [.vl (x :: l)] 0 0 = x := rfl
theorem getV_01 (x y : Val) (l : List Val) : getV [.vl (x :: y :: l)] 0 1 = y := rfl
theorem getV_02 (x y z : Val) (l : List Val) : getV [.vl (x :: y :: z :: l)] 0 2 = z := rfl
theorem getV_03 (x y z w : Val) (l : List Val) : getV [.vl (x :: y :: z :: w :: l)] 0 3 = w := rfl
theorem step144 {ω : Opq} (hf : ∀ i a, ω.f i a = F i a) {i : Nat} (hi : i < (ω.w 1).toL.length) (hn : (ω.w 1).toL.length ≤ 100) (hm : (ω.w 0).toL.length ≤ 100) {acc : List Val} (ha : acc.length ≤ 1000) :
    evalT L144 (ω.upd 2000 [.vi acc.length, .vi i, .vl acc]) = some (0, [.vi (acc ++ putG (ω.w 0).toL (atV (ω.w 1).toL i)).length, .vi (i + 1 : Nat), .vl (acc ++ putG (ω.w 0).toL (atV (ω.w 1).toL i))]) := by
  have hi1 : (i : Int) < ((ω.w 1).toL.length : Int) := by omega
  have hi0 : (0 : Int) ≤ (i : Int) := by omega
  have hb : ((acc.length + 1 : Nat) : Int) ≤ 1000000 := by omega
  have hm1 : ((ω.w 0).toL.length : Int) ≤ 1000000 := by omega
  unfold L144
  simp only [evalT, dens, den, dB, prim, upd_at, show (2000 ≤ 2000) = True by simp, show (2000 ≤ 2001) = True by simp, show (2000 ≤ 2002) = True by simp, if_true, show 2000 - 2000 = 0 from rfl, show 2001 - 2000 = 1 from rfl, show 2002 - 2000 = 2 from rfl, List.getD_cons_zero, List.getD_cons_succ, show (2000 ≤ 0) = False by simp, show (2000 ≤ 1) = False by simp, if_false, toI_vi, toL_vl, toB_vb, cmpI_lss, cmpI_leq, cmpI_eql, cmpI_gtr, hi1, hi0, hm1, decide_true, upd_f, hf, F204, F203, getV_0, getV_1, getV_2, getV_3, getV_4, getV_5, getV_6, dec_i, putV_r, arI_add1 (show i ≤ 10000000 by omega), List.length_append, List.length_cons, List.length_nil, Nat.zero_add, hb, Bool.and_true, putG]
  rcases Bool.eq_false_or_eq_true (hasV (ω.w 0).toL (paneM (atV (ω.w 1).toL i))) with hh | hh
  · simp only [findR, hh, cond_true, List.drop_succ_cons, List.drop_zero, getV_00, getV_01, getV_02, getV_03]
    rcases Bool.eq_false_or_eq_true (aggEq (atV (ω.w 0).toL (idxV (ω.w 0).toL (paneM (atV (ω.w 1).toL i)))) (atV (ω.w 1).toL i)) with ha' | ha'
    · have h3 := of_decide_eq_true ha'
      simp only [ha', h3, decide_true, Bool.not_true, Bool.false_eq_true, if_false, cond_true, Bool.and_true, Bool.and_self, List.append_nil]
      rfl
    · have h3 := of_decide_eq_false ha'
      simp only [ha', decide_true, Bool.not_true, Bool.false_eq_true, if_false, cond_true, cond_false, Bool.and_false]
      rw [if_pos (by rw [Bool.not_eq_true', ← Bool.not_eq_true]; intro hcc; exact h3 (by simpa using hcc))]
      simp
  · simp [hh]
theorem loop143 {ω : Opq} (hf : ∀ i a, ω.f i a = F i a) (hn : (ω.w 0).toL.length ≤ 100) (hm : (ω.w 1).toL.length ≤ 100) {d : List Val} (hd : d = gathF [] (deadG (ω.w 1).toL) (ω.w 0).toL) :
    loopOf (fun vs => evalT L143 (ω.upd 2000 vs)) [.vi 0, .vi 0, .vl []] = some (0, [.vi d.length, .vi (ω.w 0).toL.length, .vl d]) := by
  subst hd
  refine gath_loop (fun i acc => [.vi acc.length, .vi i, .vl acc]) (a0 := []) (g := fun i => deadG (ω.w 1).toL (atV (ω.w 0).toL i)) (n := (ω.w 0).toL.length) rfl (fun i hi => ?_) ?_
  · exact step143 hf hi hn hm (Nat.le_trans (gath_lim (fun _ => deadG_len _ _) [] (Nat.le_of_lt hi)) (by simp; omega))
  · show evalT L143 (ω.upd 2000 [_, _, _]) = _
    simp [L143, evalT.eq_2, evalT.eq_4, dB, dens, den, prim, upd_at, gathF]
theorem loop144 {ω : Opq} (hf : ∀ i a, ω.f i a = F i a) (hn : (ω.w 1).toL.length ≤ 100) (hm : (ω.w 0).toL.length ≤ 100) {d0 d : List Val} (h0 : d0.length ≤ 100) (hd : d = gathF d0 (putG (ω.w 0).toL) (ω.w 1).toL) :
    loopOf (fun vs => evalT L144 (ω.upd 2000 vs)) [.vi d0.length, .vi 0, .vl d0] = some (0, [.vi d.length, .vi (ω.w 1).toL.length, .vl d]) := by
  subst hd
  refine gath_loop (fun i acc => [.vi acc.length, .vi i, .vl acc]) (a0 := d0) (g := fun i => putG (ω.w 0).toL (atV (ω.w 1).toL i)) (n := (ω.w 1).toL.length) rfl (fun i hi => ?_) ?_
  · exact step144 hf hi hn hm (Nat.le_trans (gath_lim (fun _ => putG_len _ _) d0 (Nat.le_of_lt hi)) (by omega))
  · show evalT L144 (ω.upd 2000 [_, _, _]) = _
    simp [L144, evalT.eq_2, evalT.eq_4, dB, dens, den, prim, upd_at, gathF]
theorem t_diffR {ω : Opq} (hf : ∀ i a, ω.f i a = F i a) (hn0 : (ω.w 0).toL.length ≤ 100) (hn1 : (ω.w 1).toL.length ≤ 100) : evalT T_diffR ω = some (0, [F 209 [ω.w 0, ω.w 1], F 208 [ω.w 0, ω.w 1]]) := by
  have h209 : F 209 [ω.w 0, ω.w 1] = .vi (bif rowsOkV (ω.w 0).toL && rowsOkV (ω.w 1).toL then 0 else 2) := rfl
  have h208 : F 208 [ω.w 0, ω.w 1] = .vl (bif rowsOkV (ω.w 0).toL && rowsOkV (ω.w 1).toL then isort (diffs (ω.w 0).toL (ω.w 1).toL) else []) := rfl
  rw [h209, h208]
  unfold T_diffR
  have f0 : ω.f 202 [ω.w 0] = .vb (rowsOkV (ω.w 0).toL) := by rw [hf]; rfl
  have f1 : ω.f 202 [ω.w 1] = .vb (rowsOkV (ω.w 1).toL) := by rw [hf]; rfl
  rw [evalT.eq_3, if_pos (by show decide (((ω.w 0).toL.length : Int) ≤ 1000000) = true; exact decide_eq_true (by omega)), evalT.eq_2]
  rw [show dB ω (.op .not [.app 202 [.va 0]]) = !rowsOkV (ω.w 0).toL by show (!(ω.f 202 [ω.w 0]).toB) = _; rw [f0]; rfl]
  rcases Bool.eq_false_or_eq_true (rowsOkV (ω.w 0).toL) with k0 | k0
  · rw [k0, Bool.true_and, if_neg (by simp), evalT.eq_3, if_pos (by show decide (((ω.w 1).toL.length : Int) ≤ 1000000) = true; exact decide_eq_true (by omega)), evalT.eq_2]
    rw [show dB ω (.op .not [.app 202 [.va 1]]) = !rowsOkV (ω.w 1).toL by show (!(ω.f 202 [ω.w 1]).toB) = _; rw [f1]; rfl]
    rcases Bool.eq_false_or_eq_true (rowsOkV (ω.w 1).toL) with k1 | k1
    · rw [k1, if_neg (by simp)]
      obtain ⟨d, hd⟩ : ∃ d, d = gathF [] (deadG (ω.w 1).toL) (ω.w 0).toL := ⟨_, rfl⟩
      have e2 : den ω diffR_0 = gathR [] (deadG (ω.w 1).toL) (ω.w 0).toL := by
        show ω.f 143 [_, _, _, _, _, _, _, _, _] = _
        rw [hf, F143]; rfl
      have e3 : den ω diffR_1 = .vl d := by
        show getV (den ω diffR_0).toL 1 2 = _
        rw [e2, gathR_2, hd]
      have dl : d.length ≤ 100 := by
        rw [hd, gathF_eq, List.nil_append]
        have := flatMap_le (deadG_len (ω.w 1).toL) (ω.w 0).toL
        omega
      refine evalT_loop (loop143 hf hn0 hn1 hd) (by
        show ω.f 143 [_, _, _, _, _, _, _, _, _] = _
        rw [hf, F143, hd]; rfl) ?_
      show evalT (.need _ _) ω = _
      rw [evalT.eq_3, if_pos (by
        show decide ((getV (den ω diffR_0).toL 1 0).toI = ((den ω diffR_1).toL.length : Int)) = true
        rw [e2, e3, gathR_0, hd]; simp)]
      obtain ⟨q, hq⟩ : ∃ q, q = gathF d (putG (ω.w 0).toL) (ω.w 1).toL := ⟨_, rfl⟩
      have hqd : q = diffs (ω.w 0).toL (ω.w 1).toL := by rw [hq, hd, diffs_gath]
      have e4 : den ω diffR_2 = gathR d (putG (ω.w 0).toL) (ω.w 1).toL := by
        show ω.f 144 [_, _, den ω diffR_1, _, _, _, _, _, _] = _
        rw [hf, F144, e3]; rfl
      have e5 : den ω diffR_3 = .vi q.length := by
        show getV (den ω diffR_2).toL 1 0 = _
        rw [e4, gathR_0, hq]
      have e6 : den ω diffR_4 = .vl q := by
        show getV (den ω diffR_2).toL 1 2 = _
        rw [e4, gathR_2, hq]
      have e7 : den ω diffR_5 = .vl q := by
        show prim .lsub [den ω diffR_4, .vi 0, den ω diffR_3] = _
        rw [e5, e6]; simp [prim]
      have ql : q.length ≤ 200 := by
        have := diffs_len (ω.w 0).toL (ω.w 1).toL
        rw [hqd]; omega
      refine evalT_loop (r := (0, [.vi q.length, .vi (ω.w 1).toL.length, .vl q])) (by
        show loopOf _ [.vi (den ω diffR_1).toL.length, .vi 0, den ω diffR_1] = _
        rw [e3]; exact loop144 hf hn1 hn0 dl hq) (by
        show ω.f 144 [_, _, den ω diffR_1, _, _, _, _, _, _] = _
        rw [hf, F144, e3, hq]; rfl) ?_
      show evalT (.need _ _) ω = _
      rw [evalT.eq_3, if_pos (by
        show ((decide ((0 : Int) ≤ (den ω diffR_3).toI) && decide ((den ω diffR_3).toI ≤ ((den ω diffR_4).toL.length : Int))) && decide (((den ω diffR_5).toL.length : Int) ≤ 1000)) = true
        rw [e5, e6, e7, Bool.and_eq_true, Bool.and_eq_true]
        exact ⟨⟨decide_eq_true (by show (0 : Int) ≤ (q.length : Int); omega), decide_eq_true (Int.le_refl _)⟩, decide_eq_true (by show (q.length : Int) ≤ 1000; omega)⟩)]
      show some (0, [Val.vi 0, ω.f 207 [den ω diffR_5]]) = _
      rw [e7, hf]
      show some (0, [Val.vi 0, Val.vl (isort q)]) = _
      rw [hqd]; rfl
    · rw [k1]; rfl
  · rw [k0]; rfl
theorem badV_map {l : List Val} {i : Nat} (h : i < l.length) : badV (l.map norm7) i = badV l i := by
  unfold badV dupV
  rw [atV_map7 h]
  congr 1
  rw [Bool.eq_iff_iff, List.any_eq_true, List.any_eq_true]
  constructor <;> rintro ⟨k, hk, hq⟩ <;> refine ⟨k, hk, ?_⟩ <;> have hk := List.mem_range.1 hk
  · unfold eqAt at hq ⊢
    rw [atV_map7 h, atV_map7 (by omega)] at hq; exact hq
  · unfold eqAt at hq ⊢
    rw [atV_map7 h, atV_map7 (by omega)]; exact hq
theorem rowsOk_map (l : List Val) : rowsOkV (l.map norm7) = rowsOkV l := by
  unfold rowsOkV
  congr 1
  rw [List.length_map, Bool.eq_iff_iff, List.any_eq_true, List.any_eq_true]
  constructor <;> rintro ⟨k, hk, hq⟩ <;> refine ⟨k, hk, ?_⟩
  · rw [← badV_map (List.mem_range.1 hk)]; exact hq
  · rw [badV_map (List.mem_range.1 hk)]; exact hq
theorem diffs_map (a b : List Val) : diffs (a.map norm7) (b.map norm7) = diffs a b := by
  unfold diffs
  rw [deadG_map, putG_map, List.flatMap_map, List.flatMap_map]
  rfl
theorem t_deltaDiffs {ω : Opq} (hf : ∀ i a, ω.f i a = F i a) : evalT T_deltaDiffs ω = some (0, [.vb true]) := by
  obtain ⟨a, ha⟩ : ∃ a, a = (ω.w 0).toL := ⟨_, rfl⟩
  obtain ⟨b, hb⟩ : ∃ b, b = (ω.w 1).toL := ⟨_, rfl⟩
  have f1 : ∀ x : Val, F 1 [x] = .vb (!x.toL.any fewB) := fun _ => rfl
  have f30 : ∀ x : Val, F 30 [x] = .vl (x.toL.map norm7) := fun _ => rfl
  have f3 : ∀ x y : Val, F 3 [x, y] = .vb (eqB (rowsM x) (rowsM y)) := fun _ _ => rfl
  have f200 : ∀ x : Val, F 200 [x] = .vl (x.toL.map norm8) := fun _ => rfl
  have f201 : ∀ x y : Val, F 201 [x, y] = .vb (eqB (chgsM x) (chgsM y)) := fun _ _ => rfl
  have f208 : F 208 [ω.w 0, ω.w 1] = .vl (bif rowsOkV a && rowsOkV b then isort (diffs a b) else []) := by rw [ha, hb]; rfl
  have f208' : F 208 [.vl (a.map norm7), .vl (b.map norm7)] = .vl (bif rowsOkV a && rowsOkV b then isort (diffs a b) else []) := by
    show Val.vl (bif rowsOkV (a.map norm7) && rowsOkV (b.map norm7) then isort (diffs (a.map norm7) (b.map norm7)) else []) = _
    rw [rowsOk_map, rowsOk_map, diffs_map]
  have f209 : F 209 [ω.w 0, ω.w 1] = .vi (bif rowsOkV a && rowsOkV b then 0 else 2) := by rw [ha, hb]; rfl
  have f209' : F 209 [.vl (a.map norm7), .vl (b.map norm7)] = .vi (bif rowsOkV a && rowsOkV b then 0 else 2) := by
    show Val.vi (bif rowsOkV (a.map norm7) && rowsOkV (b.map norm7) then 0 else 2) = _
    rw [rowsOk_map, rowsOk_map]
  obtain ⟨q, hq⟩ : ∃ q, q = (bif rowsOkV a && rowsOkV b then isort (diffs a b) else []) := ⟨_, rfl⟩
  have ql : q.length ≤ a.length + b.length := by
    rw [hq]
    cases (rowsOkV a && rowsOkV b) with
    | true =>
      have h1 := (isort_perm (diffs a b)).length_eq
      rw [List.length_map] at h1
      have := diffs_len a b
      simp only [cond_true]; omega
    | false => simp
  have hc : chgsM (.vl (q.map norm8)) = chgsM (.vl q) := by
    unfold chgsM
    simp only [toL_vl, List.map_map]
    rfl
  rw [← hq] at f208 f208'
  unfold T_deltaDiffs deltaDiffs_0 deltaDiffs_1 deltaDiffs_2 deltaDiffs_3 deltaDiffs_4
  simp only [evalT, dens, den, dB, prim, hf, f1, f3, f30, f200, f201, f208, f209, ← ha, ← hb, f208', f209', toI_vi, toL_vl, toB_vb, cmpI_leq, cmpI_eql, cmpI_neq, List.length_map, hc, eqB_self]
  by_cases h1 : (a.length : Int) ≤ 30
  · by_cases h2 : (b.length : Int) ≤ 30
    · have g1 : (a.length : Int) ≤ 1000 := by omega
      have g2 : (b.length : Int) ≤ 1000 := by omega
      have g3 : (a.length : Int) ≤ 100 := by omega
      have g4 : (b.length : Int) ≤ 100 := by omega
      have g5 : (q.length : Int) ≤ 1000 := by omega
      have g6 : (q.length : Int) ≤ 1000000 := by omega
      have g7 : (a.length : Int) ≤ 1000000 := by omega
      have g8 : (b.length : Int) ≤ 1000000 := by omega
      simp only [h1, h2, g1, g2, g3, g4, g5, g6, g7, g8, decide_true, Bool.and_true, Bool.not_true, Bool.false_eq_true, if_true, if_false]
      cases a.any fewB <;> cases b.any fewB <;> rfl
    · have g1 : (a.length : Int) ≤ 1000 := by omega
      simp only [h1, h2, g1, decide_true, decide_false, Bool.false_eq_true, if_true, if_false]
      cases a.any fewB <;> rfl
  · simp only [h1, decide_false, Bool.false_eq_true, if_false]
end Go.Ev
