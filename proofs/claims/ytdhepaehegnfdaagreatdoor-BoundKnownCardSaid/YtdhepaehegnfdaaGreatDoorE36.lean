import Derived.Test.YtdhepaehegnfdaaGreatDoorE32
import Derived.Test.YtdhepaehegnfdaaGreatDoorE2f
set_option linter.unusedVariables false
set_option linter.unusedSimpArgs false
namespace Go.Ev
open Go
variable {ω : Opq} {β : Bij} {K : Nat → Prop} {w0 w : World} {h : Heap}
theorem a73 (ω : Opq) : ∀ l : List SX, k5 ω l = l.map (den ω)
 | [] => rfl
 | a :: r => by simp only [k5, List.map_cons, a73 ω r]
mutual
theorem W8 {es : List SX} : ∀ e : SX, u9 es.length e = true → den ω (P4 es e) = den (ω.upd 0 (k5 ω es)) e
 | .ci _, _ => rfl
 | .cs _, _ => rfl
 | .cb _, _ => rfl
 | .va n, h => by
   simp only [u9, k8] at h
   simp only [P4]
   rw [List.getD_eq_getElem?_getD, List.getElem?_eq_getElem h]
   have := cc3 (ω := ω) (v0 := 0) (l := k5 ω es) (j := n) (x := den ω es[n]) (by rw [a73, List.getElem?_map, List.getElem?_eq_getElem h]; rfl)
   rw [Nat.zero_add] at this
   simp only [Option.getD_some, den]
   exact this.symm
 | .op p l, h => by
   simp only [u9] at h
   simp only [P4, den]
   rw [ac6 l h]
 | .app f l, h => by
   simp only [u9] at h
   simp only [P4, den]
   rw [ac6 l h]; rfl
theorem ac6 {es : List SX} : ∀ l : List SX, M8 es.length l = true → k5 ω (aq6 es l) = k5 (ω.upd 0 (k5 ω es)) l
 | [], _ => rfl
 | a :: r, h => by
   simp only [M8, Bool.and_eq_true] at h
   simp only [aq6, k5]
   rw [W8 a h.1, ac6 r h.2]
end
noncomputable def K2 (β : Bij) (ω : Opq) (sz : Nat) (x : AV) : Option Loc := match x with
 | .osl b off len _ => if 0 < dI ω len then (β b).map fun L => ⟨L.blk, L.off + (dI ω off).toNat * sz, (dI ω len).toNat * sz⟩ else none
 | .ous b len _ => if 0 < dI ω len then (β b).map fun L => ⟨L.blk, L.off, (dI ω len).toNat * sz⟩ else none
 | .sl b o n _ => if 0 < n then (β b).map fun L => ⟨L.blk, L.off + o, n * sz⟩ else none
 | .us b o n _ => if 0 < n then (β b).map fun L => ⟨L.blk, L.off + o, n * sz⟩ else none
 | _ => none
theorem bf7 {sig : List CT} {e : Nat} {l lx : SX} {L : Loc} {o : Option Obj} {p n : Nat} (r : BR β ω L o (.arr e sig l)) (hp : p + n ≤ (dL ω l).length) (hl : dL ω lx = ((dL ω l).drop p).take n) :
 BR β ω ⟨L.blk, L.off + p * sig.length, n * sig.length⟩ o (.arr e sig lx) := by
 obtain ⟨C, e', lo, hi, q1, q0, q2, q3, q4, q5⟩ := r
 have hle : (p + n) * sig.length ≤ (dL ω l).length * sig.length := Nat.mul_le_mul_right _ hp
 rw [Nat.add_mul] at hle
 have hn : (dL ω lx).length = n := by rw [hl, List.length_take, List.length_drop]; omega
 refine ⟨C, e', lo, hi, q1, q0, by show L.off + p * sig.length + n * sig.length ≤ C.size; omega, by rw [hn]; exact Nat.le_refl _, fun i v hv => ?_, fun i hq => ?_⟩
 · show C[L.off + p * sig.length + i]? = some v
   rw [hl] at hv
   rw [show L.off + p * sig.length + i = L.off + (p * sig.length + i) by omega]
   apply q4
   have e1 : dL ω l = (dL ω l).take p ++ (((dL ω l).drop p).take n ++ ((dL ω l).drop p).drop n) := by
    rw [List.take_append_drop, List.take_append_drop]
   rw [e1, R2, R2]
   have hl1 : (j9 sig ((dL ω l).take p)).length = p * sig.length := by rw [k9, List.length_take]; congr 1; omega
   rw [List.getElem?_append_right (by omega), hl1, show p * sig.length + i - p * sig.length = i by omega]
   rw [List.getElem?_append_left]
   · exact hv
   · rcases Nat.lt_or_ge i (j9 sig (((dL ω l).drop p).take n)).length with hh | hh
     · exact hh
     · rw [List.getElem?_eq_none hh] at hv; cases hv
 · have hq : i < n * sig.length := hq
   have := q5 (p * sig.length + i) (by omega)
   show ¬ (lo ≤ L.off + p * sig.length + i ∧ L.off + p * sig.length + i < hi)
   rw [show L.off + p * sig.length + i = L.off + (p * sig.length + i) by omega]; exact this
theorem Z6 {sig : List CT} {e fz : Nat} {cs : List AV} {lx : SX} {rs : List SX} {L : Loc} {o : Option Obj} {p n : Nat} (r : BR β ω L o (.cells e fz cs)) (hf : fz ≤ p) (hp : p + n * sig.length ≤ cs.length)
 (hrs : a14 sig sig.length n ((cs.drop p).take (n * sig.length)) = some rs) (hl : dL ω lx = k5 ω rs) : BR β ω ⟨L.blk, L.off + p, n * sig.length⟩ o (.arr e sig lx) ∧ (dL ω lx).length = n := by
 obtain ⟨C, lo, hi, vs, q1, q2, q3, q4, q5, q6, q7, q8⟩ := r
 have hvl := q5.length
 have hsub : VRs β ω ((cs.drop p).take (n * sig.length)) ((vs.drop p).take (n * sig.length)) := (q5.drop _).take _
 obtain ⟨z1, z2⟩ := K6 hrs (by simp; omega) hsub
 refine ⟨⟨C, _, lo, hi, q1, .inl rfl, by show L.off + p + n * sig.length ≤ C.size; omega, by rw [hl, z2]; exact Nat.le_refl _, fun i v hv => ?_, fun i hq => ?_⟩, by rw [hl, z2]⟩
 · show C[L.off + p + i]? = some v
   rw [hl, ← z1] at hv
   have hlt : i < n * sig.length := by
    rcases Nat.lt_or_ge i (n * sig.length) with hh | hh
    · exact hh
    · rw [List.getElem?_eq_none (by simp; omega)] at hv; cases hv
   rw [show L.off + p + i = L.off + (p + i) by omega, q6 (p + i) (by omega)]
   rw [List.getElem?_take, if_pos hlt, List.getElem?_drop] at hv
   exact hv
 · have hq : i < n * sig.length := hq
   have := q7 (p + i) (by omega) (by omega)
   show ¬ (lo ≤ L.off + p + i ∧ L.off + p + i < hi)
   rw [show L.off + p + i = L.off + (p + i) by omega]; exact this
theorem aD3 {a b : SX} (h : dB ω (ax7 a b) = true) : dB ω a = true ∧ dB ω b = true := by
 rw [b27, Bool.and_eq_true] at h; exact h
structure ViewOk (β : Bij) (ω : Opq) (w : World) (h : Heap) (elem : Nat) (sig : List CT) (x : AV) (v : Value) (l : SX) : Prop where
 br : ∀ L, K2 β ω sig.length x = some L → BR β ω L w.heap[L.blk]? (.arr elem sig l)
 sl : VR β ω x v → (∃ L cap a, K2 β ω sig.length x = some L ∧ v = .slice (some a) (dL ω l).length cap ∧ (dL ω l).length ≤ cap ∧ a = ⟨L.blk, L.off, none⟩) ∨ ((dL ω l).length = 0 ∧ ∃ a cap, v = .slice a 0 cap ∧ (a = none → cap = 0))
theorem b53 {sz : Nat} {x : AV} {L : Loc} (e : K2 β ω sz x = some L) : ∃ b M, I8 (.view x) = some b ∧ β b = some M ∧ M.blk = L.blk := by
 unfold K2 at e
 split at e
 all_goals first
  | (split at e
     · obtain ⟨M, hM, rfl⟩ := Option.map_eq_some_iff.1 e
       exact ⟨_, M, rfl, hM, rfl⟩
     · cases e)
  | cases e
theorem bp1 {sz elem : Nat} {sig : List CT} {x : AV} {nd l : SX} {b : Nat} (e : bF8 sz elem sig x h = some (nd, l)) (hb : I8 (.view x) = some b) : ∃ y, h.get b = some y := by
 cases x <;> simp only [I8, Option.some.injEq, reduceCtorEq] at hb <;> subst hb <;> simp only [bF8] at e <;> split at e <;> first | (rename_i hg; exact ⟨_, hg⟩) | cases e
theorem bX0 (r : HR β ω K w0 h w) {elem : Nat} {sig : List CT} {x : AV} {v : Value} {nd l : SX} (e : bF8 sig.length elem sig x h = some (nd, l)) (hd : dB ω nd = true) : ViewOk β ω w h elem sig x v l := by
 unfold bF8 at e
 split at e
 · simp only [Option.some.injEq, Prod.mk.injEq] at e
   obtain ⟨rfl, rfl⟩ := e
   exact ⟨fun L hL => by simp only [K2, reduceCtorEq] at hL, fun rv => .inr ⟨rfl, none, 0, rv, fun _ => rfl⟩⟩
 · rename_i b len s
   split at e
   · rename_i e0 sg l0 hg
     replace e := a8 e
     obtain ⟨hc, e⟩ := e
     obtain ⟨hc, c3⟩ := g9 hc
     obtain ⟨c1, c2⟩ := g9 hc
     obtain rfl := j0.1 c1
     obtain rfl := j0.1 c2
     obtain rfl := C6 c3
     have main : 0 ≤ dI ω len → (dI ω len).toNat ≤ (dL ω l0).length → dL ω l = (dL ω l0).take (dI ω len).toNat → ViewOk β ω w h e0 sg (.ous b len sg.length) v l := by
      intro h0 hle hl
      have hll : (dL ω l).length = (dI ω len).toNat := by rw [hl, List.length_take]; omega
      constructor
      · intro L hL
        simp only [K2] at hL
        split at hL
        · obtain ⟨M, hM, rfl⟩ := Option.map_eq_some_iff.1 hL
          have := bf7 (p := 0) (n := (dI ω len).toNat) (lx := l) (r.blk b _ M hg hM) (by omega) (by simpa using hl)
          simpa using this
        · cases hL
      · intro rv
        simp only [VR] at rv
        rcases rv with ⟨L, cap, hL, hcap, hv, hlc⟩ | ⟨hv, hz⟩
        · by_cases hp : 0 < dI ω len
          · refine .inl ⟨⟨L.blk, L.off, (dI ω len).toNat * sg.length⟩, cap, _, ?_, by rw [hll]; exact hv, by rw [hll]; exact hlc, rfl⟩
            simp only [K2, if_pos hp, hL, Option.map_some]
          · refine .inr ⟨by rw [hll]; omega, some ⟨L.blk, L.off, none⟩, cap, ?_, fun hh => (by cases hh)⟩
            rw [hv, show (dI ω len).toNat = 0 by omega]
        · exact .inr ⟨by rw [hll, hz]; rfl, none, 0, hv, fun _ => rfl⟩
     cases hq : SX.beq len (.op .llen [l0]) with
     | true =>
       rw [hq] at e
       simp only [cond_true, Option.some.injEq, Prod.mk.injEq] at e
       obtain ⟨rfl, rfl⟩ := e
       have hlen := SX.beq_eq _ _ hq
       have : dI ω len = ((dL ω l0).length : Int) := by rw [hlen, v7]
       refine main (by omega) (by omega) ?_
       rw [this]; simp
     | false =>
       rw [hq] at e
       simp only [cond_false, Option.some.injEq, Prod.mk.injEq] at e
       obtain ⟨rfl, rfl⟩ := e
       rw [U1, Bool.and_eq_true] at hd
       have d1 : 0 ≤ dI ω len := of_decide_eq_true hd.1
       have d2 : dI ω len ≤ ((dL ω l0).length : Int) := of_decide_eq_true hd.2
       refine main d1 (by omega) ?_
       show ((dL ω l0).drop (0 : Int).toNat).take (dI ω len - 0).toNat = _
       simp
   · cases e
 · rename_i b off len s
   split at e
   · rename_i e0 sg l0 hg
     replace e := a8 e
     obtain ⟨hc, e⟩ := e
     obtain ⟨hc, c3⟩ := g9 hc
     obtain ⟨c1, c2⟩ := g9 hc
     obtain rfl := j0.1 c1
     obtain rfl := j0.1 c2
     obtain rfl := C6 c3
     have main : 0 ≤ dI ω off → 0 ≤ dI ω len → (dI ω off).toNat + (dI ω len).toNat ≤ (dL ω l0).length → dL ω l = ((dL ω l0).drop (dI ω off).toNat).take (dI ω len).toNat → ViewOk β ω w h e0 sg (.osl b off len sg.length) v l := by
      intro h1 h0 hle hl
      have hll : (dL ω l).length = (dI ω len).toNat := by rw [hl, List.length_take, List.length_drop]; omega
      constructor
      · intro L hL
        simp only [K2] at hL
        split at hL
        · obtain ⟨M, hM, rfl⟩ := Option.map_eq_some_iff.1 hL
          exact bf7 (r.blk b _ M hg hM) hle hl
        · cases hL
      · intro rv
        simp only [VR] at rv
        rcases rv with ⟨L, cap, a, hL, hv, hlc, ha⟩ | ⟨a, cap, hv, hac, hz⟩
        · by_cases hp : 0 < dI ω len
          · refine .inl ⟨⟨L.blk, L.off + (dI ω off).toNat * sg.length, (dI ω len).toNat * sg.length⟩, cap, a, ?_, by rw [hll]; exact hv, by rw [hll]; exact hlc, ha hp⟩
            simp only [K2, if_pos hp, hL, Option.map_some]
          · refine .inr ⟨by rw [hll]; omega, some a, cap, ?_, fun hh => (by cases hh)⟩
            rw [hv, show (dI ω len).toNat = 0 by omega]
        · exact .inr ⟨by rw [hll, hz]; rfl, a, cap, hv, hac⟩
     cases hq : (SX.beq off (.ci 0) && SX.beq len (.op .llen [l0])) with
     | true =>
       rw [hq] at e
       simp only [cond_true, Option.some.injEq, Prod.mk.injEq] at e
       obtain ⟨rfl, rfl⟩ := e
       rw [Bool.and_eq_true] at hq
       have ho := SX.beq_eq _ _ hq.1
       have hlen := SX.beq_eq _ _ hq.2
       have t1 : dI ω len = ((dL ω l0).length : Int) := by rw [hlen, v7]
       have t2 : dI ω off = 0 := by rw [ho, an5]
       refine main (by omega) (by omega) (by omega) ?_
       rw [t1, t2]; simp
     | false =>
       rw [hq] at e
       simp only [cond_false, Option.some.injEq, Prod.mk.injEq] at e
       obtain ⟨rfl, rfl⟩ := e
       rw [U1, U1, Bool.and_eq_true, Bool.and_eq_true] at hd
       have d1 : 0 ≤ dI ω off := of_decide_eq_true hd.1
       have d2 : 0 ≤ dI ω len := of_decide_eq_true hd.2.1
       have d3 : dI ω off + dI ω len ≤ ((dL ω l0).length : Int) := of_decide_eq_true hd.2.2
       refine main d1 d2 (by omega) ?_
       show ((dL ω l0).drop (dI ω off).toNat).take (dI ω off + dI ω len - dI ω off).toNat = _
       congr 2; omega
   · cases e
 · rename_i b o n c
   split at e
   · rename_i e0 fz cs hg
     replace e := a8 e
     obtain ⟨hc, e⟩ := e
     obtain ⟨hc, c5⟩ := g9 hc
     obtain ⟨hc, c4⟩ := g9 hc
     obtain ⟨hc, c3⟩ := g9 hc
     obtain ⟨c1, c2⟩ := g9 hc
     obtain rfl := j0.1 c1
     rw [j2] at c2 c3 c4
     rw [k8] at c5
     unfold bW4 at e
     split at e
     · rename_i rs hrs
       simp only [Option.some.injEq, Prod.mk.injEq] at e
       obtain ⟨rfl, rfl⟩ := e
       constructor
       · intro M hM
         simp only [K2, if_pos c5] at hM
         obtain ⟨L, hL, rfl⟩ := Option.map_eq_some_iff.1 hM
         exact (Z6 (lx := .op .row rs) (r.blk b _ L hg hL) c3 c4 hrs rfl).1
       · intro rv
         simp only [VR] at rv
         obtain ⟨L, hL, hv⟩ := rv
         obtain ⟨p1, p2⟩ := Z6 (lx := .op .row rs) (r.blk b _ L hg hL) c3 c4 hrs rfl
         refine .inl ⟨⟨L.blk, L.off + o, n * sig.length⟩, c, _, ?_, by rw [p2]; exact hv, by rw [p2]; exact c2, rfl⟩
         simp only [K2, if_pos c5, hL, Option.map_some]
     · cases e
   · cases e
 · rename_i b o n s
   split at e
   · rename_i e0 fz cs hg
     replace e := a8 e
     obtain ⟨hc, e⟩ := e
     obtain ⟨hc, c4⟩ := g9 hc
     obtain ⟨hc, c3⟩ := g9 hc
     obtain ⟨hc, c1⟩ := g9 hc
     obtain ⟨cz, c0⟩ := g9 hc
     obtain rfl := j0.1 c0
     obtain rfl := j0.1 c1
     rw [k8] at cz
     rw [j2] at c3 c4
     unfold bW4 at e
     split at e
     · rename_i rs hrs
       simp only [Option.some.injEq, Prod.mk.injEq] at e
       obtain ⟨rfl, rfl⟩ := e
       constructor
       · intro M hM
         simp only [K2] at hM
         split at hM
         · obtain ⟨L, hL, rfl⟩ := Option.map_eq_some_iff.1 hM
           exact (Z6 (lx := .op .row rs) (r.blk b _ L hg hL) c3 c4 hrs rfl).1
         · cases hM
       · intro rv
         simp only [VR] at rv
         obtain ⟨L, cap, hL, hcap, hv⟩ := rv
         have hbr := r.blk b _ L hg hL
         obtain ⟨p1, p2⟩ := Z6 (lx := .op .row rs) hbr c3 c4 hrs rfl
         by_cases hp : 0 < n
         · refine .inl ⟨⟨L.blk, L.off + o, n * sig.length⟩, cap, _, ?_, by rw [p2]; exact hv, ?_, rfl⟩
           · simp only [K2, if_pos hp, hL, Option.map_some]
           · rw [p2]
             obtain ⟨_, _, _, _, _, _, q3, _⟩ := hbr
             have : n * sig.length ≤ cap * sig.length := by omega
             exact Nat.le_of_mul_le_mul_right this cz
         · refine .inr ⟨by rw [p2]; omega, some ⟨L.blk, L.off + o, none⟩, cap, ?_, fun hh => (by cases hh)⟩
           rw [hv, show n = 0 by omega]
     · cases e
   · cases e
 · cases e
theorem bp2 {sz elem : Nat} {sig : List CT} {x : AV} {nd l : SX} {b : Nat} (e : bo7 sz elem sig x h = some (nd, l)) (hb : I8 (.view x) = some b) : ∃ y, h.get b = some y := bp1 e hb
theorem bf8 (r : HR β ω K w0 h w) {elem : Nat} {sig : List CT} {x : AV} {v : Value} {nd l : SX} (e : bo7 sig.length elem sig x h = some (nd, l)) (hd : dB ω nd = true) : ViewOk β ω w h elem sig x v l := by
 have := bX0 (v := v) r e hd
 refine ⟨fun L hL => ?_, this.sl⟩
 obtain ⟨C, e', lo, hi, q1, q0, q⟩ := this.br L hL
 refine ⟨C, e', lo, hi, q1, ?_, q⟩
 unfold c42 at q0
 cases hb : Nat.beq elem a40 with
 | true => exact .inr (j0.1 hb)
 | false => rw [hb] at q0; exact q0
theorem cr0 (r : HR β ω K w0 h w) {elem : Nat} {sig : List CT} {x : AV} {nd l : SX} (e : bo7 sig.length elem sig x h = some (nd, l)) (hd : dB ω nd = true) (L : Loc) (hL : K2 β ω sig.length x = some L) : BR β ω L w.heap[L.blk]? (.arr elem sig l) :=
 (bf8 (v := .bool true) r e hd).br L hL
end Go.Ev
