/- Loops over lists: what their bodies' trees come to. -/
import Derived.Test.YthgndhfpfblphabGreatDoorE41
namespace Go.Ev
open Go

theorem loop_eq {step : List Val → Option (Nat × List Val)} {st : Nat → List Val} {n j : Nat} {p : List Val} (h1 : ∀ i, i < n → step (st i) = some (0, st (i + 1))) (h2 : step (st n) = some (j + 1, p)) : loopOf step (st 0) = some (j, p) := by
  rw [loopOf_iff]
  have : ∀ k, k ≤ n → Iter step (st (n - k)) j p := by
    intro k
    induction k with
    | zero => intro _; exact .out h2
    | succ k ih =>
      intro hk
      have e := h1 (n - (k + 1)) (by omega)
      rw [show n - (k + 1) + 1 = n - k by omega] at e
      exact .more e (ih (by omega))
  have h := this n (Nat.le_refl _)
  rwa [Nat.sub_self] at h

/-- A search: the first place where a test holds; the first slots then. -/
def scanR (x : Val) (px : Nat → List Val) (bad : Nat → Bool) (n : Nat) : Nat × List Val := match (List.range n).find? bad with
  | some i => (1, px i)
  | none => (0, [x, .vi n])
theorem find_range {bad : Nat → Bool} : ∀ {n i : Nat}, (List.range n).find? bad = some i → i < n ∧ bad i = true ∧ ∀ k, k < i → bad k = false := by
  intro n i h
  rw [List.find?_range_eq_some] at h
  exact ⟨List.mem_range.1 h.2.1, h.1, fun k hk => by simpa using h.2.2 k hk⟩
theorem scan_loop {step : List Val → Option (Nat × List Val)} {x : Val} {px : Nat → List Val} {bad : Nat → Bool} {n : Nat}
    (h1 : ∀ i, i < n → bad i = false → step [x, .vi i] = some (0, [x, .vi (i + 1 : Nat)])) (h2 : ∀ i, i < n → bad i = true → step [x, .vi i] = some (2, px i))
    (h3 : step [x, .vi n] = some (1, [x, .vi n])) : loopOf step [x, .vi (0 : Int)] = some (scanR x px bad n) := by
  unfold scanR
  split
  · rename_i i hi
    obtain ⟨a, b, c⟩ := find_range hi
    exact loop_eq (st := fun i => [x, .vi i]) (n := i) (fun k hk => h1 k (by omega) (c k hk)) (h2 i a b)
  · rename_i hn
    rw [List.find?_range_eq_none] at hn
    exact loop_eq (st := fun i => [x, .vi i]) (n := n) (fun k hk => h1 k hk (by simpa using hn k hk)) h3
theorem scanR_find {x : Val} {px : Nat → List Val} {bad : Nat → Bool} {n : Nat} : scanR x px bad n = if (List.range n).any bad then (1, px (((List.range n).find? bad).getD 0)) else (0, [x, .vi n]) := by
  unfold scanR
  split
  · rename_i i hi
    have : (List.range n).any bad = true := by
      rw [List.any_eq_true]
      obtain ⟨a, b, _⟩ := find_range hi
      exact ⟨i, List.mem_range.2 a, b⟩
    rw [this, hi]; rfl
  · rename_i hn
    have : (List.range n).any bad = false := by
      rw [List.find?_range_eq_none] at hn
      rw [List.any_eq_false]
      intro i hi
      simpa using hn i (List.mem_range.1 hi)
    rw [this]; rfl

/-- A tally: what each round puts behind. -/
def gath (g : Nat → List Val) : Nat → List Val
  | 0 => []
  | n + 1 => gath g n ++ g n
theorem gath_len {g : Nat → List Val} {m : Nat} (hg : ∀ i, (g i).length ≤ m) : ∀ n, (gath g n).length ≤ n * m
  | 0 => by simp [gath]
  | n + 1 => by
    have := gath_len hg n
    have := hg n
    simp only [gath, List.length_append, Nat.add_mul]; omega
theorem gath_range (g : Nat → List Val) : ∀ n, gath g n = (List.range n).flatMap g
  | 0 => rfl
  | n + 1 => by rw [gath, gath_range g n, List.range_succ, List.flatMap_append]; simp

theorem any_range {α : Type} (q : α → Bool) (d : α) : ∀ (l : List α), ((List.range l.length).any fun i => q (l.getD i d)) = l.any q
  | [] => rfl
  | a :: l => by
    rw [List.length_cons, List.range_succ_eq_map, List.any_cons, List.any_map]
    simp only [List.getD_cons_zero, List.any_cons]
    congr 1
    rw [← any_range q d l]
    congr 1
theorem flat_range {α β : Type} (g : α → List β) (d : α) : ∀ (l : List α), ((List.range l.length).flatMap fun i => g (l.getD i d)) = l.flatMap g
  | [] => rfl
  | a :: l => by
    rw [List.length_cons, List.range_succ_eq_map, List.flatMap_cons, List.flatMap_map]
    simp only [List.getD_cons_zero, List.flatMap_cons]
    congr 1
    rw [← flat_range g d l]
    congr 1
theorem eq_range {α β : Type} [DecidableEq β] (f : α → β) (d : α) : ∀ (l r : List α), l.length = r.length → ((List.range l.length).any fun i => !decide (f (l.getD i d) = f (r.getD i d))) = !decide (l.map f = r.map f)
  | [], [], _ => by simp
  | a :: l, b :: r, h => by
    rw [List.length_cons, List.range_succ_eq_map, List.any_cons, List.any_map]
    simp only [List.getD_cons_zero, List.map_cons, List.cons.injEq]
    have := eq_range f d l r (by simpa using h)
    have e : ((fun i => !decide (f ((a :: l).getD i d) = f ((b :: r).getD i d))) ∘ Nat.succ) = fun i => !decide (f (l.getD i d) = f (r.getD i d)) := by
      funext i; simp [Function.comp]
    rw [e, this]
    by_cases h1 : f a = f b <;> simp [h1]
  | [], _ :: _, h => by simp at h
  | _ :: _, [], h => by simp at h

theorem getV_nat (l : List Val) (i : Nat) (j : Int) : getV l (i : Int) j = (l.getD i (.vl [])).toL.getD j.toNat default := rfl
theorem wrap_small {n : Nat} (h : n ≤ 10000000) : IntKind.i64.wrap ((n : Int) + 1) = ((n + 1 : Nat) : Int) := by
  have : ((n : Int) + 1) = ((n + 1 : Nat) : Int) := by omega
  rw [this]
  simp only [IntKind.wrap, IntKind.bits, IntKind.signed]
  simp
  omega
end Go.Ev
