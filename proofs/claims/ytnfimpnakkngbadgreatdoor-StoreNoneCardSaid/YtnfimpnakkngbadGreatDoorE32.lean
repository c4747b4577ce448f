/- A law that answers true: what its row asks of the world behind the call; the shapes of its arguments. -/
import Derived.Test.YtnfimpnakkngbadGreatDoorE31
import Derived.Carry
import Derived.OpenShut
import Derived.ChangeSame
import Derived.ChangeMaps5
set_option linter.unusedVariables false
set_option linter.unusedSimpArgs false
namespace Go.Ev
open Go Go.RowKit Go.WideShapes Go.ChangeShapes

section
variable {H : Type} {enc : TypeId × Value → H} {P : Program}

theorem trodAll_stays (hl : laidOutB P = true) {W W' : World} {sp' : Nat → Bool} : ∀ {ts : List TypeId} {vs : List Value} {ds : List (DataW H)} {ps : List MemPlace}, DataW.TrodAll enc P W 0 (fun _ => true) true ts vs ds ps →
    (ts.all fun t => P.readableRec t && decide (t < P.types.size)) = true → (∀ p ∈ ps, W.sameAt W' p) → (∀ p ∈ ps, sp' p.block = true) → DataW.TrodAll enc P W' 0 sp' true ts vs ds ps
  | [], vs, ds, ps, h, _, _, _ => by
    obtain ⟨rfl, rfl, rfl⟩ := trodAll_nil h
    exact trodAll_mk0
  | t :: ts, vs, ds, ps, h, hr, hs, hp => by
    obtain ⟨v, vs', d, ds', p, q, rfl, rfl, rfl, h1, h2⟩ := trodAll_cons h
    simp only [List.all_cons, Bool.and_eq_true, decide_eq_true_eq] at hr
    exact trodAll_cons_mk (WideElems.Trod_stays hl hr.1.1 hr.1.2 h1 (fun x hx => hs x (by simp [hx])) (fun x hx => hp x (by simp [hx])))
      (trodAll_stays hl h2 hr.2 (fun x hx => hs x (by simp [hx])) (fun x hx => hp x (by simp [hx])))

theorem trodAll_app {w : World} {base : Nat} {sp : Nat → Bool} {hd : Bool} : ∀ {ts us : List TypeId} {vs ws : List Value} {ds es : List (DataW H)} {ps qs : List MemPlace}, DataW.TrodAll enc P w base sp hd ts vs ds ps → DataW.TrodAll enc P w base sp hd us ws es qs →
    DataW.TrodAll enc P w base sp hd (ts ++ us) (vs ++ ws) (ds ++ es) (ps ++ qs)
  | [], us, vs, ws, ds, es, ps, qs, h, k => by
    obtain ⟨rfl, rfl, rfl⟩ := trodAll_nil h
    exact k
  | t :: ts, us, vs, ws, ds, es, ps, qs, h, k => by
    obtain ⟨v, vs', d, ds', p, q, rfl, rfl, rfl, h1, h2⟩ := trodAll_cons h
    have := trodAll_cons_mk h1 (trodAll_app h2 k)
    simpa [List.append_assoc] using this

/-- A law's end. -/
theorem post_law {f : Func} {s : ChangeSpec} {W W' : World} {args : Array Value} {ds : List (DataW H)} {before : List MemPlace} {tb : TypeId}
    (hW : DataW.Whole enc P f.params.toList s.vars false W args.toList ds [] before) (hv : s.vars = []) (hfn : s.fn H ds = { results := [.lit (.bool true)], args := ds })
    (hl : laidOutB P = true) (hr : (f.params.toList.all fun t => P.readableRec t && decide (t < P.types.size)) = true) (hb : Below W.heap.size W W')
    (hbool : P.underlying tb = some .bool) (hres : f.resultTypes = #[tb]) : s.post enc P f false true false false W args (.bool true) W' := by
  have hlt : ∀ p ∈ before, p.block < W.heap.size := fun p hp => hW.lt p hp
  have hWW := hW
  obtain ⟨p, q, hA, hV, rfl, hz, _⟩ := hWW
  rw [hv] at hV
  obtain rfl : q = [] := hV
  simp only [List.append_nil] at hlt hz
  have hsame : ∀ x ∈ p, W.sameAt W' x := fun x hx => hb.same (hlt x hx)
  have hargs : ∀ sp : Nat → Bool, (∀ x ∈ p, sp x.block = true) → DataW.TrodAll enc P W' 0 sp true f.params.toList args.toList ds p := fun sp hsp => trodAll_stays hl hA hr hsame hsp
  have hress : ∀ (b : Nat) (sp : Nat → Bool) (hd : Bool), DataW.TrodAll enc P W' b sp hd f.resultTypes.toList ((Value.bool true).resultList f.resultTypes.size) [.lit (.bool true)] [] := fun b sp hd => by
    rw [hres]; exact trodAll_mk1 (shut_bool hbool true)
  have hvs : ∀ sp : Nat → Bool, DataW.TrodVars enc P W' sp s.vars [] [] := fun sp => by rw [hv]; rfl
  have h0 : s.fn H (ds ++ []) = { results := [.lit (.bool true)], args := ds } := by rw [List.append_nil]; exact hfn
  refine ⟨ds, [], p, [], p, [], by simpa using hW, ?_, ?_, ?_, World.keptBut_mono (fun x hx => ⟨hx, .inr (.inl hx)⟩) (hb.frame (· ∈ p)), fun h => by cases h⟩
  · rw [h0]; exact hress _ _ _
  · rw [h0]; exact hargs _ (fun x hx => by simpa using hlt x hx)
  · rw [h0]; exact hvs _
end

/-! ### The arguments' shapes -/
/-- The hidden values of one row. -/
def valI : Value → Int
  | .int _ n => n
  | _ => 0
def valS : Value → List UInt8
  | .string s => s.data.toList
  | _ => []
def valV : Value → Val
  | .int _ n => .vi n
  | .string s => .vs s.data.toList
  | .bool b => .vb b
  | _ => .vb false
def oneV (v : Value) : Value := if v.oneCell' = true then v else .bool false
theorem oneV_one (v : Value) : (oneV v).oneCell' = true := by
  unfold oneV
  split
  · assumption
  · rfl
theorem oneV_eq {v : Value} (h : v.oneCell' = true) : oneV v = v := if_pos h
def opqOf (P : Program) (l : List Value) : Opq := ⟨fun n => oneV (l.getD n (.bool false)), fun n => valV (l.getD n (.bool false)), fun _ _ => .vb false, fun n => oneV_one _, fun t => fixT P t⟩

/-- How many hidden values an argument of a type takes; and what it is. -/
def opqs (n k : Nat) : List AV := (List.range k).map fun i => .opq (n + i)
theorem opqs_VRs {P : Program} {β : Bij} {l a : List Value} {xs : List Value} (hx : ∀ v ∈ xs, v.oneCell' = true) : ∀ {n : Nat}, n = a.length → (∃ b, l = a ++ (xs ++ b)) → VRs β (opqOf P l) (opqs n xs.length) xs := by
  induction xs generalizing a with
  | nil => intro n _ _; rfl
  | cons v xs ih =>
    rintro n rfl ⟨b, rfl⟩
    have h1 : opqs a.length (v :: xs).length = .opq a.length :: opqs (a.length + 1) xs.length := by
      simp only [opqs, List.length_cons, List.range_succ_eq_map, List.map_cons, List.map_map, Nat.add_zero]
      congr 1
      apply List.map_congr_left
      intro i _
      simp only [Function.comp, Nat.succ_eq_add_one]
      congr 1; omega
    rw [h1]
    refine ⟨v, xs, rfl, ?_, ?_⟩
    · show v = oneV _
      rw [List.getD_eq_getElem?_getD, List.getElem?_append_right (Nat.le_refl _), Nat.sub_self]
      simp only [List.cons_append, List.getElem?_cons_zero, Option.getD_some]
      exact (oneV_eq (hx v (by simp))).symm
    · exact ih (a := a ++ [v]) (fun u hu => hx u (by simp [hu])) (by simp) ⟨b, by simp⟩

/-- What an argument of a type is. -/
def argOf (P : Program) (t : TypeId) (n : Nat) : AV × Nat := match P.underlying t with
  | some (.struct _) => (.agg (opqs n (P.cellsOf t)), n + P.cellsOf t)
  | some (.array _ _) => (.agg (opqs n (P.cellsOf t)), n + P.cellsOf t)
  | some (.int k) => (.oint k (.va n), n + 1)
  | some .string => (.ostr (.va n), n + 1)
  | some .bool => (.obool (.va n), n + 1)
  | _ => (.opq n, n + 1)
def argsOf (P : Program) : List TypeId → Nat → List AV
  | [], _ => []
  | t :: r, n => (argOf P t n).1 :: argsOf P r (argOf P t n).2

theorem cell_one {P : Program} {w : World} {r : Reach} {b : Nat} {t : TypeId} {v : Value} (h : Cell.okWide P w r b t v) : v.oneCell' = true := by
  cases v with
  | agg _ => unfold Cell.okWide Cell.ok at h; revert h; cases P.underlying t with
    | none => simp
    | some d => cases d <;> simp
  | tuple _ => unfold Cell.okWide Cell.ok at h; revert h; cases P.underlying t with
    | none => simp
    | some d => cases d <;> simp
  | _ => rfl

theorem argOf_ok {P : Program} {w : World} {r : Reach} {b0 : Nat} {t : TypeId} {v : Value} (h : Value.okWide P w r b0 t v) (a : List Value) :
    ∃ xs : List Value, (argOf P t a.length).2 = a.length + xs.length ∧ ∀ (β : Bij) (b : List Value), VR β (opqOf P (a ++ (xs ++ b))) (argOf P t a.length).1 v := by
  have hagg : (∃ cs, v = .agg cs ∧ cs.size = P.cellsOf t ∧ Row.okWide P w r b0 t cs) → ∃ xs : List Value, a.length + P.cellsOf t = a.length + xs.length ∧ ∀ (β : Bij) (b : List Value), VR β (opqOf P (a ++ (xs ++ b))) (.agg (opqs a.length (P.cellsOf t))) v := by
    rintro ⟨cs, rfl, hsz, ts, _, _, hall⟩
    refine ⟨cs.toList, by rw [← hsz]; simp, fun β b => ⟨cs, rfl, ?_⟩⟩
    have := opqs_VRs (P := P) (β := β) (l := a ++ (cs.toList ++ b)) (a := a) (xs := cs.toList) (fun u hu => ?_) rfl ⟨b, rfl⟩
    · rw [show P.cellsOf t = cs.toList.length by rw [← hsz]; simp]; exact this
    · obtain ⟨i, hi, rfl⟩ := List.getElem_of_mem hu
      obtain ⟨u, _, hc⟩ := hall i cs.toList[i] (by simp at hi; simp [hi])
      exact cell_one hc
  have h1 : ∀ (b : List Value), (a ++ ([v] ++ b)).getD a.length (.bool false) = v := fun b => by
    rw [List.getD_eq_getElem?_getD, List.getElem?_append_right (Nat.le_refl _), Nat.sub_self]
    simp
  have hopq : v.oneCell' = true → ∀ (β : Bij) (b : List Value), VR β (opqOf P (a ++ ([v] ++ b))) (.opq a.length) v := fun ho β b => by
    show v = oneV _
    rw [h1]; exact (oneV_eq ho).symm
  unfold argOf
  unfold Value.okWide at h
  split
  · rename_i fs e; rw [e] at h; exact hagg h
  · rename_i m e e2; rw [e2] at h; exact hagg h
  · rename_i k e
    obtain ⟨n, rfl⟩ := okWide_int e (by unfold Value.okWide; exact h)
    refine ⟨[.int k n], rfl, fun β b => ?_⟩
    show Value.int k n = .int k (valV _).toI
    rw [h1]; rfl
  · rename_i e
    obtain ⟨s, rfl⟩ := okWide_string e (by unfold Value.okWide; exact h)
    refine ⟨[.string s], rfl, fun β b => ?_⟩
    show Value.string s = .string ⟨(valV _).toS.toArray⟩
    rw [h1]; simp [valV, Val.toS]
  · rename_i e
    obtain ⟨s, rfl⟩ := okWide_bool e (by unfold Value.okWide; exact h)
    refine ⟨[.bool s], rfl, fun β b => ?_⟩
    show Value.bool s = .bool (valV _).toB
    rw [h1]; rfl
  · rename_i h2 h3 h4 h5 h6
    refine ⟨[v], rfl, hopq ?_⟩
    split at h
    · rename_i fs e; exact absurd e (h2 fs)
    · rename_i m e e2; exact absurd e2 (h3 _ _)
    · exact cell_one h

theorem argsOf_ok {P : Program} {w : World} {r : Reach} {b0 : Nat} : ∀ {ts : List TypeId} {vs : List Value}, ts.length = vs.length → (∀ (j : Nat) t v, ts[j]? = some t → vs[j]? = some v → Value.okWide P w r b0 t v) → ∀ (a : List Value),
    ∃ xs : List Value, ∀ (β : Bij) (b : List Value), VRs β (opqOf P (a ++ (xs ++ b))) (argsOf P ts a.length) vs
  | [], [], _, _, a => ⟨[], fun _ _ => rfl⟩
  | t :: ts, v :: vs, hl, h, a => by
    obtain ⟨xs, h1, h2⟩ := argOf_ok (h 0 t v rfl rfl) a
    obtain ⟨ys, h3⟩ := argsOf_ok (ts := ts) (vs := vs) (by simpa using hl) (fun j t' v' e e' => h (j + 1) t' v' e e') (a ++ xs)
    refine ⟨xs ++ ys, fun β b => ⟨v, vs, rfl, ?_, ?_⟩⟩
    · have := h2 β (ys ++ b)
      simpa [List.append_assoc] using this
    · have := h3 β b
      rw [show (argOf P t a.length).2 = (a ++ xs).length by rw [h1]; simp]
      simpa [List.append_assoc] using this
  | [], _ :: _, hl, _, _ => by simp at hl
  | _ :: _, [], hl, _, _ => by simp at hl

theorem trodAll_length {H : Type} {enc : TypeId × Value → H} {P : Program} {w : World} {base : Nat} {sp : Nat → Bool} {hd : Bool} : ∀ {ts : List TypeId} {vs : List Value} {ds : List (DataW H)} {ps : List MemPlace}, DataW.TrodAll enc P w base sp hd ts vs ds ps → ts.length = vs.length ∧ ds.length = ts.length
  | [], vs, ds, ps, h => by obtain ⟨rfl, rfl, rfl⟩ := trodAll_nil h; exact ⟨rfl, rfl⟩
  | t :: ts, vs, ds, ps, h => by
    obtain ⟨v, vs', d, ds', p, q, rfl, rfl, rfl, h1, h2⟩ := trodAll_cons h
    have := trodAll_length h2
    simp [this.1, this.2]

end Go.Ev
