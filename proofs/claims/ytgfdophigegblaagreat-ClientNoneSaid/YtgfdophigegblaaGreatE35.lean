/- The evaluator: a closed call that writes one row, told once. -/
import Derived.Test.YtgfdophigegblaaGreatE34
set_option linter.unusedVariables false
set_option linter.unusedSimpArgs false
namespace Go.Ev
open Go

variable {E : Env} {ω : Opq} {K : Nat → Prop} {w0 w w' : World} {h h' : Heap} {β β' : Bij}

noncomputable section
/-- Her own heap: a variable that points to a row of plain cells. -/
def rowH (e1 e2 : Nat) (cs : List AV) : Heap := ((Heap.empty.new (.cells e1 0 [.ptr 1 0])).raise).new (.cells e2 0 cs)
def rowIs (e2 : Nat) (ds : List AV) (x : Option Blk) : Bool := match x with
  | some (.cells e fz cs) => Nat.beq e e2 && Nat.beq fz 0 && AV.beqs cs ds
  | _ => false
def kRow (e2 : Nat) (ds : List AV) (v : AV) (h : Heap) : Bool := AV.beq v (.tup []) && rowIs e2 ds (h.get 1) && Nat.beq h.next 2
/-- The hook: at a pointer to a variable that points to such a row, the row is written. -/
def rowHook (e1 e2 : Nat) (cs ds : List AV) (args : List AV) (h : Heap) : Option (AV × Heap) := match args with
  | [.ptr c 0] => match h.get c with
    | some (.cells a 0 [.ptr b 0]) => match h.get b with
      | some (.cells a2 0 xs) => bif Nat.beq a e1 && Nat.beq a2 e2 && Nat.ble h.wm b && !(Nat.beq c b) && AV.beqs xs cs then some (.tup [], h.put b (some (.cells e2 0 ds))) else none
      | _ => none
    | _ => none
  | _ => none
end

theorem ren_plain {ρ : Nat → Nat} {v : AV} (hp : plainCell v = true) : ren ρ v = v := by
  cases v <;> simp only [plainCell, Bool.false_eq_true] at hp <;> rfl
theorem rens_plain {ρ : Nat → Nat} : ∀ {l : List AV}, l.all plainCell = true → rens ρ l = l
  | [], _ => rfl
  | a :: r, h => by
    simp only [List.all_cons, Bool.and_eq_true] at h
    simp only [rens, ren_plain h.1, rens_plain h.2]

theorem rowCall {f : FuncId} {n e1 e2 : Nat} {cs ds args : List AV} {us : List Value} {v : AV} (hpc : cs.all plainCell = true) (hpd : ds.all plainCell = true) (hb : BodyS E ω n)
    (hrun : ev E n Bool boolAlg (.body f [.ptr 0 0] (rowH e1 e2 cs) (kRow e2 ds)) = true) (r : HR β ω K w0 h w) (hk : rowHook e1 e2 cs ds args h = some (v, h')) (ra : VRs β ω args us) :
    Calls E.P f us.toArray w (fun e w' => ∃ u β', e = .returned u ∧ VR β' ω v u ∧ HR β' ω K w0 h' w' ∧ St h β h' β') := by
  unfold rowHook at hk
  split at hk
  · rename_i c
    split at hk
    · rename_i a b hgc
      split at hk
      · rename_i a2 xs hgb
        replace hk := cond_some hk
        obtain ⟨hc, hk⟩ := hk
        obtain ⟨hc, c5⟩ := and_t hc
        obtain ⟨hc, c4⟩ := and_t hc
        obtain ⟨hc, c3⟩ := and_t hc
        obtain ⟨c1, c2⟩ := and_t hc
        obtain rfl := beq_iff'.1 c1
        obtain rfl := beq_iff'.1 c2
        rw [ble_iff] at c3
        have hne : c ≠ b := by rintro rfl; simp at c4
        have hxs := AV.beqs_eq xs cs c5
        subst hxs
        simp only [Option.some.injEq, Prod.mk.injEq] at hk
        obtain ⟨rfl, rfl⟩ := hk
        obtain ⟨u, ur, rfl, ⟨Lc, hLc, rfl⟩, hnil⟩ := ra
        rw [show ur = [] from hnil]
        have hrc := r.blk c _ Lc hgc hLc
        have hLb : ∃ Lb, β b = some Lb := by
          obtain ⟨C, lo, hi, vs, q1, q2, q3, q4, q5, q6⟩ := hrc
          obtain ⟨_, _, _, ⟨Lb, hLb, _⟩, _⟩ := q5
          exact ⟨Lb, hLb⟩
        obtain ⟨Lb, hLb⟩ := hLb
        have hcn : c < h.next := by
          rcases Nat.lt_or_ge c h.next with hh | hh
          · exact hh
          · rw [r.fresh c hh] at hLc; cases hLc
        have hbn : b < h.next := by
          rcases Nat.lt_or_ge b h.next with hh | hh
          · exact hh
          · rw [r.fresh b hh] at hLb; cases hLb
        have hget : ∀ i x, (rowH a a2 xs).get i = some x → i = 0 ∧ x = .cells a 0 [.ptr 1 0] ∨ i = 1 ∧ x = .cells a2 0 xs := by
          intro i x hx
          unfold rowH at hx
          rw [Heap.get_new] at hx
          simp only [Heap.next_raise, Heap.next_new, Heap.get_raise] at hx
          have h0 : Heap.empty.next = 0 := rfl
          rw [h0] at hx
          by_cases h1 : i = 1
          · rw [if_pos h1] at hx
            split at hx
            · simp only [Option.some.injEq] at hx; exact .inr ⟨h1, hx.symm⟩
            · cases hx
          · rw [if_neg h1, Heap.get_new, h0] at hx
            by_cases h2 : i = 0
            · rw [if_pos h2] at hx
              split at hx
              · simp only [Option.some.injEq] at hx; exact .inl ⟨h2, hx.symm⟩
              · cases hx
            · rw [if_neg h2, Heap.get_empty] at hx; cases hx
        have hnx : (rowH a a2 xs).next = 2 := rfl
        have hwm : (rowH a a2 xs).wm = 1 := rfl
        have hb0 : βof β [c, b] 0 = β c := rfl
        have hb1 : βof β [c, b] 1 = β b := rfl
        have rc : HR (βof β [c, b]) ω (Kof β [c, b] 1 w) w (rowH a a2 xs) w := by
          refine frame_in r (by simp [hne]) hnx hwm (fun i hi => ?_) (fun i x d L hx hs hL => ?_) (fun i x d hx hs => ?_)
          · cases hx : (rowH a a2 xs).get i with
            | none => rfl
            | some x => rcases hget i x hx with ⟨rfl, _⟩ | ⟨rfl, _⟩ <;> omega
          · rcases hget i x hx with ⟨rfl, rfl⟩ | ⟨rfl, rfl⟩
            · simp only [List.getElem?_cons_zero, Option.some.injEq] at hs; subst hs
              rw [hLc] at hL; simp only [Option.some.injEq] at hL; subst hL
              obtain ⟨C, lo, hi, vs, q1, q2, q3, q4, q5, q6⟩ := hrc
              obtain ⟨z, zr, rfl, ⟨M, hM, rfl⟩, hz⟩ := q5
              exact ⟨C, lo, hi, _, q1, q2, q3, rfl, ⟨_, zr, rfl, ⟨M, by rw [hb1]; exact hM, rfl⟩, hz⟩, q6⟩
            · simp only [List.getElem?_cons_succ, List.getElem?_cons_zero, Option.some.injEq] at hs; subst hs
              obtain ⟨C, lo, hi, vs, q1, q2, q3, q4, q5, q6⟩ := r.blk b _ L hgb hL
              exact ⟨C, lo, hi, vs, q1, q2, q3, q4, plains_VRs hpc q5, q6⟩
          · rcases hget i x hx with ⟨rfl, rfl⟩ | ⟨rfl, rfl⟩
            · simp only [List.getElem?_cons_zero, Option.some.injEq] at hs; subst hs; exact ⟨_, hgc⟩
            · simp only [List.getElem?_cons_succ, List.getElem?_cons_zero, Option.some.injEq] at hs; subst hs; exact ⟨_, hgb⟩
        refine Calls.mono (hb Bool boolAlg (· = true) (boolAlg_ok ω) f [.ptr 0 0] _ _ hrun _ w _ w _ rc ⟨_, [], rfl, ⟨Lc, by rw [hb0]; exact hLc, rfl⟩, rfl⟩) ?_
        rintro e w' ⟨u, β', v, h', rfl, h1, h2, h3, h4⟩
        simp only [kRow, Bool.and_eq_true] at h1
        obtain ⟨⟨k1, k2⟩, k3⟩ := h1
        have k3 := beq_iff'.1 k3
        have hv := AV.beq_eq v _ k1
        subst hv
        have hg1 : h'.get 1 = some (.cells a2 0 ds) := by
          unfold rowIs at k2
          split at k2
          · rename_i e' fz cs' hg
            simp only [Bool.and_eq_true] at k2
            obtain ⟨⟨m1, m2⟩, m3⟩ := k2
            rw [hg, beq_iff'.1 m1, beq_iff'.1 m2, AV.beqs_eq _ _ m3]
          · cases k2
        have hσ : ∀ (i d : Nat), [c, b][i]? = some d → i = 0 ∧ d = c ∨ i = 1 ∧ d = b := by
          intro i d hd
          match i with
          | 0 => simp at hd; exact .inl ⟨rfl, hd.symm⟩
          | 1 => simp at hd; exact .inr ⟨rfl, hd.symm⟩
          | i + 2 => simp at hd
        have hblt : b < h.next := hbn
        have hout := frame_out (h2 := h.put b (some (.cells a2 0 ds))) (σ := [c, b]) (mt := 1) r (by simp [hne]) hnx hwm
          (fun i d hd => by rcases hσ i d hd with ⟨_, rfl⟩ | ⟨_, rfl⟩ <;> assumption)
          (fun i d hi hd => by
            rcases hσ i d hd with ⟨rfl, _⟩ | ⟨_, rfl⟩
            · omega
            · exact ⟨c3, ⟨Lb, hLb⟩, _, hgb⟩)
          h3 h4 (fun i => if i = 1 then some (.cells a2 0 ds) else none)
          (fun i x L hx hL => by
            by_cases hi : i = 1
            · subst hi
              simp only [if_true, Option.some.injEq] at hx; subst hx
              exact h3.blk 1 _ L hg1 hL
            · simp only [if_neg hi] at hx; cases hx)
          (fun i x hx => by
            by_cases hi : i = 1
            · subst hi; exact ⟨_, hg1⟩
            · simp only [if_neg hi] at hx; cases hx)
          (by rw [Heap.next_put, k3]; rfl) rfl
          (fun d x hd hx => by
            rw [Heap.get_put] at hx
            by_cases hdb : d = b
            · subst hdb
              rw [if_pos rfl] at hx
              split at hx
              · simp only [Option.some.injEq] at hx; subst hx
                refine .inl ⟨1, Nat.le_refl _, rfl, ?_⟩
                simp only [if_true, Option.bind_some, renB, rens_plain hpd]
              · cases hx
            · rw [if_neg hdb] at hx
              refine .inr ⟨fun i hi hs => ?_, hx⟩
              rcases hσ i d hs with ⟨rfl, _⟩ | ⟨_, rfl⟩
              · omega
              · exact hdb rfl)
          (fun d hd hno => by
            rw [Heap.get_put, if_neg]
            rintro rfl
            exact hno 1 (Nat.le_refl _) rfl)
          (fun d x hd hx => by
            rw [Heap.get_put, if_neg (by omega), r.fget d hd] at hx; cases hx)
          (by simp) (by rw [k3]; simp)
        obtain ⟨xs2, rfl, hx2⟩ := h2
        exact ⟨_, β2of β β' [c, b] h.next, rfl, ⟨xs2, rfl, hx2⟩, hout.1, hout.2⟩
      · cases hk
    · cases hk
  · cases hk

end Go.Ev
