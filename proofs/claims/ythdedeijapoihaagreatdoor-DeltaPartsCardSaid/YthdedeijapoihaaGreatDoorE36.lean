import Derived.Test.YthdedeijapoihaaGreatDoorE32
import Derived.Test.YthdedeijapoihaaGreatDoorE2f
set_option autoImplicit false
set_option linter.unusedVariables false
set_option linter.unusedSimpArgs false
namespace Go.Ev
open Go
variable {ω : Opq} {β : Bij} {K : Nat → Prop} {w0 w : World} {h : Heap}
theorem a24 (ω : Opq) : ∀ l : List SX, j3 ω l = l.map (den ω)
 | [] => rfl
 | a :: r => by simp only [j3, List.map_cons, a24 ω r]
mutual
theorem S7 {es : List SX} : ∀ e : SX, s8 es.length e = true → den ω (N1 es e) = den (ω.upd 0 (j3 ω es)) e
 | .ci _, _ => rfl
 | .cs _, _ => rfl
 | .cb _, _ => rfl
 | .va n, h => by
   simp only [s8, j7] at h
   simp only [N1]
   rw [List.getD_eq_getElem?_getD, List.getElem?_eq_getElem h]
   have := c00 (ω := ω) (v0 := 0) (l := j3 ω es) (j := n) (x := den ω es[n]) (by rw [a24, List.getElem?_map, List.getElem?_eq_getElem h]; rfl)
   rw [Nat.zero_add] at this
   simp only [Option.getD_some, den]
   exact this.symm
 | .op p l, h => by
   simp only [s8] at h
   simp only [N1, den]
   rw [a64 l h]
 | .app f l, h => by
   simp only [s8] at h
   simp only [N1, den]
   rw [a64 l h]; rfl
theorem a64 {es : List SX} : ∀ l : List SX, J9 es.length l = true → j3 ω (aj0 es l) = j3 (ω.upd 0 (j3 ω es)) l
 | [], _ => rfl
 | a :: r, h => by
   simp only [J9, Bool.and_eq_true] at h
   simp only [aj0, j3]
   rw [S7 a h.1, a64 r h.2]
end
noncomputable def I5 (β : Bij) (ω : Opq) (sz : Nat) (x : AV) : Option Loc := match x with
 | .osl b off len _ => if 0 < dI ω len then (β b).map fun L => ⟨L.blk, L.off + (dI ω off).toNat * sz, (dI ω len).toNat * sz⟩ else none
 | .ous b len _ => if 0 < dI ω len then (β b).map fun L => ⟨L.blk, L.off, (dI ω len).toNat * sz⟩ else none
 | .sl b o n _ => if 0 < n then (β b).map fun L => ⟨L.blk, L.off + o, n * sz⟩ else none
 | .us b o n _ => if 0 < n then (β b).map fun L => ⟨L.blk, L.off + o, n * sz⟩ else none
 | _ => none
theorem b38 {sig : List CT} {e : Nat} {l lx : SX} {L : Loc} {o : Option Obj} {p n : Nat} (r : BR β ω L o (.arr e sig l)) (hp : p + n ≤ (dL ω l).length) (hl : dL ω lx = ((dL ω l).drop p).take n) :
 BR β ω ⟨L.blk, L.off + p * sig.length, n * sig.length⟩ o (.arr e sig lx) := by
 obtain ⟨C, e', lo, hi, q1, q0, q2, q3, q4, q5⟩ := r
 have hle : (p + n) * sig.length ≤ (dL ω l).length * sig.length := Nat.mul_le_mul_right _ hp
 rw [Nat.add_mul] at hle
 have hn : (dL ω lx).length = n := by rw [hl, List.length_take, List.length_drop]; omega
 refine ⟨C, e', lo, hi, q1, q0, by show L.off + p * sig.length + n * sig.length ≤ C.size; omega, by rw [hn]; exact Nat.le_refl _, fun i v hv => ?_, fun i hq => ?_⟩
 · show C[L.off + p * sig.length + i]? = some v
   rw [hl] at hv
   rw [show L.off + p * sig.length + i = L.off + (p * sig.length + i) by omega]
   apply q4
   have e1 : dL ω l = (dL ω l).take p ++ (((dL ω l).drop p).take n ++ ((dL ω l).drop p).drop n) := by
    rw [List.take_append_drop, List.take_append_drop]
   rw [e1, O7, O7]
   have hl1 : (j4 sig ((dL ω l).take p)).length = p * sig.length := by rw [l6, List.length_take]; congr 1; omega
   rw [List.getElem?_append_right (by omega), hl1, show p * sig.length + i - p * sig.length = i by omega]
   rw [List.getElem?_append_left]
   · exact hv
   · rcases Nat.lt_or_ge i (j4 sig (((dL ω l).drop p).take n)).length with hh | hh
     · exact hh
     · rw [List.getElem?_eq_none hh] at hv; cases hv
 · have hq : i < n * sig.length := hq
   have := q5 (p * sig.length + i) (by omega)
   show ¬ (lo ≤ L.off + p * sig.length + i ∧ L.off + p * sig.length + i < hi)
   rw [show L.off + p * sig.length + i = L.off + (p * sig.length + i) by omega]; exact this
theorem W0 {sig : List CT} {e fz : Nat} {cs : List AV} {lx : SX} {rs : List SX} {L : Loc} {o : Option Obj} {p n : Nat} (r : BR β ω L o (.cells e fz cs)) (hf : fz ≤ p) (hp : p + n * sig.length ≤ cs.length)
 (hrs : X8 sig sig.length n ((cs.drop p).take (n * sig.length)) = some rs) (hl : dL ω lx = j3 ω rs) : BR β ω ⟨L.blk, L.off + p, n * sig.length⟩ o (.arr e sig lx) ∧ (dL ω lx).length = n := by
 obtain ⟨C, lo, hi, vs, q1, q2, q3, q4, q5, q6, q7, q8⟩ := r
 have hvl := q5.length
 have hsub : VRs β ω ((cs.drop p).take (n * sig.length)) ((vs.drop p).take (n * sig.length)) := (q5.drop _).take _
 obtain ⟨z1, z2⟩ := I9 hrs (by simp; omega) hsub
 refine ⟨⟨C, _, lo, hi, q1, .inl rfl, by show L.off + p + n * sig.length ≤ C.size; omega, by rw [hl, z2]; exact Nat.le_refl _, fun i v hv => ?_, fun i hq => ?_⟩, by rw [hl, z2]⟩
 · show C[L.off + p + i]? = some v
   rw [hl, ← z1] at hv
   have hlt : i < n * sig.length := by
    rcases Nat.lt_or_ge i (n * sig.length) with hh | hh
    · exact hh
    · rw [List.getElem?_eq_none (by simp; omega)] at hv; cases hv
   rw [show L.off + p + i = L.off + (p + i) by omega, q6 (p + i) (by omega)]
   rw [List.getElem?_take, if_pos hlt, List.getElem?_drop] at hv
   exact hv
 · have hq : i < n * sig.length := hq
   have := q7 (p + i) (by omega) (by omega)
   show ¬ (lo ≤ L.off + p + i ∧ L.off + p + i < hi)
   rw [show L.off + p + i = L.off + (p + i) by omega]; exact this
theorem au3 {a b : SX} (h : dB ω (ao8 a b) = true) : dB ω a = true ∧ dB ω b = true := by
 rw [aR4, Bool.and_eq_true] at h; exact h
structure ViewOk (β : Bij) (ω : Opq) (w : World) (h : Heap) (elem : Nat) (sig : List CT) (x : AV) (v : Value) (l : SX) : Prop where
 br : ∀ L, I5 β ω sig.length x = some L → BR β ω L w.heap[L.blk]? (.arr elem sig l)
 sl : VR β ω x v → (∃ L cap a, I5 β ω sig.length x = some L ∧ v = .slice (some a) (dL ω l).length cap ∧ (dL ω l).length ≤ cap ∧ a = ⟨L.blk, L.off, none⟩) ∨ ((dL ω l).length = 0 ∧ ∃ a cap, v = .slice a 0 cap ∧ (a = none → cap = 0))
theorem aU0 {sz : Nat} {x : AV} {L : Loc} (e : I5 β ω sz x = some L) : ∃ b M, F9 (.view x) = some b ∧ β b = some M ∧ M.blk = L.blk := by
 unfold I5 at e
 split at e
 all_goals first
  | (split at e
     · obtain ⟨M, hM, rfl⟩ := Option.map_eq_some_iff.1 e
       exact ⟨_, M, rfl, hM, rfl⟩
     · cases e)
  | cases e
theorem bd1 {sz elem : Nat} {sig : List CT} {x : AV} {nd l : SX} {b : Nat} (e : bt1 sz elem sig x h = some (nd, l)) (hb : F9 (.view x) = some b) : ∃ y, h.get b = some y := by
 cases x <;> simp only [F9, Option.some.injEq, reduceCtorEq] at hb <;> subst hb <;> simp only [bt1] at e <;> split at e <;> first | (rename_i hg; exact ⟨_, hg⟩) | cases e
theorem bK0 (r : HR β ω K w0 h w) {elem : Nat} {sig : List CT} {x : AV} {v : Value} {nd l : SX} (e : bt1 sig.length elem sig x h = some (nd, l)) (hd : dB ω nd = true) : ViewOk β ω w h elem sig x v l := by
 unfold bt1 at e
 split at e
 · simp only [Option.some.injEq, Prod.mk.injEq] at e
   obtain ⟨rfl, rfl⟩ := e
   exact ⟨fun L hL => by simp only [I5, reduceCtorEq] at hL, fun rv => .inr ⟨rfl, none, 0, rv, fun _ => rfl⟩⟩
 · rename_i b len s
   split at e
   · rename_i e0 sg l0 hg
     replace e := a8 e
     obtain ⟨hc, e⟩ := e
     obtain ⟨hc, c3⟩ := a9 hc
     obtain ⟨c1, c2⟩ := a9 hc
     obtain rfl := e8.1 c1
     obtain rfl := e8.1 c2
     obtain rfl := B6 c3
     have main : 0 ≤ dI ω len → (dI ω len).toNat ≤ (dL ω l0).length → dL ω l = (dL ω l0).take (dI ω len).toNat → ViewOk β ω w h e0 sg (.ous b len sg.length) v l := by
      intro h0 hle hl
      have hll : (dL ω l).length = (dI ω len).toNat := by rw [hl, List.length_take]; omega
      constructor
      · intro L hL
        simp only [I5] at hL
        split at hL
        · obtain ⟨M, hM, rfl⟩ := Option.map_eq_some_iff.1 hL
          have := b38 (p := 0) (n := (dI ω len).toNat) (lx := l) (r.blk b _ M hg hM) (by omega) (by simpa using hl)
          simpa using this
        · cases hL
      · intro rv
        simp only [VR] at rv
        rcases rv with ⟨L, cap, hL, hcap, hv, hlc⟩ | ⟨hv, hz⟩
        · by_cases hp : 0 < dI ω len
          · refine .inl ⟨⟨L.blk, L.off, (dI ω len).toNat * sg.length⟩, cap, _, ?_, by rw [hll]; exact hv, by rw [hll]; exact hlc, rfl⟩
            simp only [I5, if_pos hp, hL, Option.map_some]
          · refine .inr ⟨by rw [hll]; omega, some ⟨L.blk, L.off, none⟩, cap, ?_, fun hh => (by cases hh)⟩
            rw [hv, show (dI ω len).toNat = 0 by omega]
        · exact .inr ⟨by rw [hll, hz]; rfl, none, 0, hv, fun _ => rfl⟩
     cases hq : SX.beq len (.op .llen [l0]) with
     | true =>
       rw [hq] at e
       simp only [cond_true, Option.some.injEq, Prod.mk.injEq] at e
       obtain ⟨rfl, rfl⟩ := e
       have hlen := SX.beq_eq _ _ hq
       have : dI ω len = ((dL ω l0).length : Int) := by rw [hlen, t6]
       refine main (by omega) (by omega) ?_
       rw [this]; simp
     | false =>
       rw [hq] at e
       simp only [cond_false, Option.some.injEq, Prod.mk.injEq] at e
       obtain ⟨rfl, rfl⟩ := e
       rw [Q6, Bool.and_eq_true] at hd
       have d1 : 0 ≤ dI ω len := of_decide_eq_true hd.1
       have d2 : dI ω len ≤ ((dL ω l0).length : Int) := of_decide_eq_true hd.2
       refine main d1 (by omega) ?_
       show ((dL ω l0).drop (0 : Int).toNat).take (dI ω len - 0).toNat = _
       simp
   · cases e
 · rename_i b off len s
   split at e
   · rename_i e0 sg l0 hg
     replace e := a8 e
     obtain ⟨hc, e⟩ := e
     obtain ⟨hc, c3⟩ := a9 hc
     obtain ⟨c1, c2⟩ := a9 hc
     obtain rfl := e8.1 c1
     obtain rfl := e8.1 c2
     obtain rfl := B6 c3
     have main : 0 ≤ dI ω off → 0 ≤ dI ω len → (dI ω off).toNat + (dI ω len).toNat ≤ (dL ω l0).length → dL ω l = ((dL ω l0).drop (dI ω off).toNat).take (dI ω len).toNat → ViewOk β ω w h e0 sg (.osl b off len sg.length) v l := by
      intro h1 h0 hle hl
      have hll : (dL ω l).length = (dI ω len).toNat := by rw [hl, List.length_take, List.length_drop]; omega
      constructor
      · intro L hL
        simp only [I5] at hL
        split at hL
        · obtain ⟨M, hM, rfl⟩ := Option.map_eq_some_iff.1 hL
          exact b38 (r.blk b _ M hg hM) hle hl
        · cases hL
      · intro rv
        simp only [VR] at rv
        rcases rv with ⟨L, cap, a, hL, hv, hlc, ha⟩ | ⟨a, cap, hv, hac, hz⟩
        · by_cases hp : 0 < dI ω len
          · refine .inl ⟨⟨L.blk, L.off + (dI ω off).toNat * sg.length, (dI ω len).toNat * sg.length⟩, cap, a, ?_, by rw [hll]; exact hv, by rw [hll]; exact hlc, ha hp⟩
            simp only [I5, if_pos hp, hL, Option.map_some]
          · refine .inr ⟨by rw [hll]; omega, some a, cap, ?_, fun hh => (by cases hh)⟩
            rw [hv, show (dI ω len).toNat = 0 by omega]
        · exact .inr ⟨by rw [hll, hz]; rfl, a, cap, hv, hac⟩
     cases hq : (SX.beq off (.ci 0) && SX.beq len (.op .llen [l0])) with
     | true =>
       rw [hq] at e
       simp only [cond_true, Option.some.injEq, Prod.mk.injEq] at e
       obtain ⟨rfl, rfl⟩ := e
       rw [Bool.and_eq_true] at hq
       have ho := SX.beq_eq _ _ hq.1
       have hlen := SX.beq_eq _ _ hq.2
       have t1 : dI ω len = ((dL ω l0).length : Int) := by rw [hlen, t6]
       have t2 : dI ω off = 0 := by rw [ho, af9]
       refine main (by omega) (by omega) (by omega) ?_
       rw [t1, t2]; simp
     | false =>
       rw [hq] at e
       simp only [cond_false, Option.some.injEq, Prod.mk.injEq] at e
       obtain ⟨rfl, rfl⟩ := e
       rw [Q6, Q6, Bool.and_eq_true, Bool.and_eq_true] at hd
       have d1 : 0 ≤ dI ω off := of_decide_eq_true hd.1
       have d2 : 0 ≤ dI ω len := of_decide_eq_true hd.2.1
       have d3 : dI ω off + dI ω len ≤ ((dL ω l0).length : Int) := of_decide_eq_true hd.2.2
       refine main d1 d2 (by omega) ?_
       show ((dL ω l0).drop (dI ω off).toNat).take (dI ω off + dI ω len - dI ω off).toNat = _
       congr 2; omega
   · cases e
 · rename_i b o n c
   split at e
   · rename_i e0 fz cs hg
     replace e := a8 e
     obtain ⟨hc, e⟩ := e
     obtain ⟨hc, c5⟩ := a9 hc
     obtain ⟨hc, c4⟩ := a9 hc
     obtain ⟨hc, c3⟩ := a9 hc
     obtain ⟨c1, c2⟩ := a9 hc
     obtain rfl := e8.1 c1
     rw [e9] at c2 c3 c4
     rw [j7] at c5
     unfold bJ3 at e
     split at e
     · rename_i rs hrs
       simp only [Option.some.injEq, Prod.mk.injEq] at e
       obtain ⟨rfl, rfl⟩ := e
       constructor
       · intro M hM
         simp only [I5, if_pos c5] at hM
         obtain ⟨L, hL, rfl⟩ := Option.map_eq_some_iff.1 hM
         exact (W0 (lx := .op .row rs) (r.blk b _ L hg hL) c3 c4 hrs rfl).1
       · intro rv
         simp only [VR] at rv
         obtain ⟨L, hL, hv⟩ := rv
         obtain ⟨p1, p2⟩ := W0 (lx := .op .row rs) (r.blk b _ L hg hL) c3 c4 hrs rfl
         refine .inl ⟨⟨L.blk, L.off + o, n * sig.length⟩, c, _, ?_, by rw [p2]; exact hv, by rw [p2]; exact c2, rfl⟩
         simp only [I5, if_pos c5, hL, Option.map_some]
     · cases e
   · cases e
 · rename_i b o n s
   split at e
   · rename_i e0 fz cs hg
     replace e := a8 e
     obtain ⟨hc, e⟩ := e
     obtain ⟨hc, c4⟩ := a9 hc
     obtain ⟨hc, c3⟩ := a9 hc
     obtain ⟨hc, c1⟩ := a9 hc
     obtain ⟨cz, c0⟩ := a9 hc
     obtain rfl := e8.1 c0
     obtain rfl := e8.1 c1
     rw [j7] at cz
     rw [e9] at c3 c4
     unfold bJ3 at e
     split at e
     · rename_i rs hrs
       simp only [Option.some.injEq, Prod.mk.injEq] at e
       obtain ⟨rfl, rfl⟩ := e
       constructor
       · intro M hM
         simp only [I5] at hM
         split at hM
         · obtain ⟨L, hL, rfl⟩ := Option.map_eq_some_iff.1 hM
           exact (W0 (lx := .op .row rs) (r.blk b _ L hg hL) c3 c4 hrs rfl).1
         · cases hM
       · intro rv
         simp only [VR] at rv
         obtain ⟨L, cap, hL, hcap, hv⟩ := rv
         have hbr := r.blk b _ L hg hL
         obtain ⟨p1, p2⟩ := W0 (lx := .op .row rs) hbr c3 c4 hrs rfl
         by_cases hp : 0 < n
         · refine .inl ⟨⟨L.blk, L.off + o, n * sig.length⟩, cap, _, ?_, by rw [p2]; exact hv, ?_, rfl⟩
           · simp only [I5, if_pos hp, hL, Option.map_some]
           · rw [p2]
             obtain ⟨_, _, _, _, _, _, q3, _⟩ := hbr
             have : n * sig.length ≤ cap * sig.length := by omega
             exact Nat.le_of_mul_le_mul_right this cz
         · refine .inr ⟨by rw [p2]; omega, some ⟨L.blk, L.off + o, none⟩, cap, ?_, fun hh => (by cases hh)⟩
           rw [hv, show n = 0 by omega]
     · cases e
   · cases e
 · cases e
theorem bd2 {sz elem : Nat} {sig : List CT} {x : AV} {nd l : SX} {b : Nat} (e : bc7 sz elem sig x h = some (nd, l)) (hb : F9 (.view x) = some b) : ∃ y, h.get b = some y := bd1 e hb
theorem b39 (r : HR β ω K w0 h w) {elem : Nat} {sig : List CT} {x : AV} {v : Value} {nd l : SX} (e : bc7 sig.length elem sig x h = some (nd, l)) (hd : dB ω nd = true) : ViewOk β ω w h elem sig x v l := by
 have := bK0 (v := v) r e hd
 refine ⟨fun L hL => ?_, this.sl⟩
 obtain ⟨C, e', lo, hi, q1, q0, q⟩ := this.br L hL
 refine ⟨C, e', lo, hi, q1, ?_, q⟩
 unfold bQ8 at q0
 cases hb : Nat.beq elem Z7 with
 | true => exact .inr (e8.1 hb)
 | false => rw [hb] at q0; exact q0
theorem cg1 (r : HR β ω K w0 h w) {elem : Nat} {sig : List CT} {x : AV} {nd l : SX} (e : bc7 sig.length elem sig x h = some (nd, l)) (hd : dB ω nd = true) (L : Loc) (hL : I5 β ω sig.length x = some L) : BR β ω L w.heap[L.blk]? (.arr elem sig l) :=
 (b39 (v := .bool true) r e hd).br L hL
end Go.Ev
