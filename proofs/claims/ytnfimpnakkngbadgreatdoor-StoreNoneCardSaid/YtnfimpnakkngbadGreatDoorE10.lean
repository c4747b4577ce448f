/- The evaluator: copy, new slices. -/
import Derived.Test.YtnfimpnakkngbadGreatDoorE9
set_option linter.unusedVariables false
set_option linter.unusedSimpArgs false
namespace Go.Ev
open Go

variable {P : Program} {β : Bij} {ω : Opq} {K : Nat → Prop} {w0 w : World} {h h' : Heap}

theorem firstE_zero {s : Nat} {y : AV} {l : List AV} (e : firstE s 0 y h = some l) : l = [] := by
  cases y <;> simp only [firstE, reduceCtorEq] at e <;> first
    | (simpa using e)
    | (split at e
       · replace e := (cond_some e).2; simpa using e
       · cases e)

theorem copyE_ok {ts : Array TypeId} {ty : TypeId} {x y a : AV} {vx vy : Value} (r : HR β ω K w0 h w) (e : copyE P ts x y h = some (a, h')) (rx : VR β ω x vx) (ry : VR β ω y vy) :
    Ok P β ω K w0 w h (Builtin.copy_ ts ty #[vx, vy]) a h' := by
  unfold copyE at e
  split at e
  · rename_i elem ht
    simp only [Option.bind_eq_some_iff] at ht
    obtain ⟨t, h0, ht⟩ := ht
    split at e
    · rename_i s lx ly hs hlx hly
      simp only [Option.bind_eq_some_iff] at e
      obtain ⟨new, hnew, e⟩ := e
      obtain ⟨us, u1, u2, u3⟩ := firstE_ok (P := P) r hnew ry
      have hrun : ∀ (base : Option Addr) (c : Nat), vx = .slice base lx c → (Builtin.copy_ ts ty #[vx, vy]).run P w =
          ((match base with | some a => storeCells a us | none => pure () : Sem Unit) >>= fun _ => pure (goInt (Nat.min ly lx : Nat))).run P w := by
        intro base c hv
        subst hv
        have h3 := u3 w rfl
        have h4 := lenE_ok (P := P) hly ry w
        cases base <;> simp only [Builtin.copy_, h0, Sem.run_bind, run_under ht, run_szOf hs, h4, h3, Result.andThen_ok, List.getElem?_toArray, List.getElem?_cons_zero, List.getElem?_cons_succ, Sem.run_pure]
      have nil : lx = 0 → us = [] := by
        intro hz; subst hz
        have : Nat.min ly 0 = 0 := Nat.min_zero ly
        rw [this] at hnew
        rw [firstE_zero hnew] at u1; exact u1
      cases x <;> simp only [copyTo, reduceCtorEq, Option.map_eq_some_iff, Option.some.injEq, Prod.mk.injEq] at e
      · obtain ⟨rfl, rfl⟩ := e
        exact ⟨β, _, w, by rw [hrun none 0 (by simpa [VR, show lx = 0 by simpa [lenE] using hlx.symm] using rx)]; rfl, rfl, r, .refl _ _⟩
      · rename_i b o len cap
        obtain ⟨h1, he, rfl, rfl⟩ := e
        simp only [lenE, Option.some.injEq] at hlx; subst hlx
        simp only [VR] at rx; obtain ⟨L, hL, rx⟩ := rx
        obtain ⟨p1, p2, p3⟩ := putCells_ok (P := P) r he hL u1
        exact ⟨β, _, _, by rw [hrun _ _ rx, Sem.run_bind, p1]; rfl, rfl, p2, p3⟩
      · rename_i b o len cap
        obtain ⟨h1, he, rfl, rfl⟩ := e
        simp only [lenE, Option.some.injEq] at hlx; subst hlx
        simp only [VR] at rx; obtain ⟨L, c, hL, _, rx⟩ := rx
        obtain ⟨p1, p2, p3⟩ := putCells_ok (P := P) r he hL u1
        exact ⟨β, _, _, by rw [hrun _ _ rx, Sem.run_bind, p1]; rfl, rfl, p2, p3⟩
      · obtain ⟨rfl, rfl⟩ := e
        simp only [lenE, Option.some.injEq] at hlx; subst hlx
        obtain rfl := nil rfl
        simp only [VR] at rx; obtain ⟨L, ad, c, _, rx, _⟩ := rx
        exact ⟨β, _, w, by rw [hrun (some ad) c rx]; rfl, rfl, r, .refl _ _⟩
      · obtain ⟨rfl, rfl⟩ := e
        simp only [lenE, Option.some.injEq] at hlx; subst hlx
        obtain rfl := nil rfl
        simp only [VR] at rx; obtain ⟨ad, rx⟩ := rx
        exact ⟨β, _, w, by rw [hrun (some ad) 0 rx]; rfl, rfl, r, .refl _ _⟩
    · cases e
  · cases e

theorem newSl_ok (r : HR β ω K w0 h w) {elem l c s : Nat} {cs : List AV} {us : Array Value} (ho : cs.all AV.one = true) (rv : VRs β ω cs us.toList) :
    ∃ β', VR β' ω (.sl h.next 0 l c) (.slice (some ⟨w.heap.size, 0, none⟩) l c) ∧ HR β' ω K w0 (h.new (.cells elem 0 cs)) (w.alloc (.cells us elem)) ∧ St h β (h.new (.cells elem 0 cs)) β' := by
  have hl := rv.length
  simp only [Array.length_toList] at hl
  obtain ⟨p1, p2⟩ := newRow_ok r elem cs us ho rv us.size (Nat.le_refl _) (by omega)
  exact ⟨_, ⟨_, Bij.add_self _ _ _, rfl⟩, p1, p2⟩

theorem mapRange0 (f : Nat → Value) : (Array.range 0).map f = #[] := by simp [Array.range]

theorem buildSliceE_ok {t n : Nat} {parts : List (Nat × AV)} {vparts : Array (Nat × Value)} {a : AV} (r : HR β ω K w0 h w) (e : buildSliceE P t n parts h = some (a, h'))
    (hm : parts.map (·.1) = vparts.toList.map (·.1)) (hv : VRs β ω (parts.map (·.2)) (vparts.toList.map (·.2))) : Ok P β ω K w0 w h (Instr.buildSlice t n vparts) a h' := by
  unfold buildSliceE at e
  split at e
  · rename_i elem ht
    split at e
    · rename_i s z hs hz
      obtain ⟨hc, e⟩ := cond_some e
      obtain ⟨hc, c3⟩ := and_t hc
      obtain ⟨c1, c2⟩ := and_t hc
      rw [beq_iff'] at c1
      rw [blt_iff] at c2
      rw [ble_iff] at c3
      split at e
      · rename_i cs hf
        obtain ⟨ho, e⟩ := cond_some e
        simp only [Option.some.injEq, Prod.mk.injEq] at e
        obtain ⟨rfl, rfl⟩ := e
        obtain ⟨zv, hzv, hzr⟩ := run_zeroOf hz
        have rz : VRs β ω z.cells zv.cells.toList := VR.cells' (ofVal_VR hzv) (ofVal_any hzv)
        have hzs : zv.cells.size = s := by have := rz.length; simpa [c1] using this
        have rr := rep_VRs rz (by omega) n
        rw [hzs] at rr
        obtain ⟨cells', e1, e2, e3⟩ := fill_ok (placeV := fun i => some (i * s, s)) (fun i x hx => hx) parts vparts.toList _ cs _ hf rr hm hv
        obtain ⟨β', q1, q2, q3⟩ := newSl_ok (s := s) (elem := elem) (l := n) (c := n) r ho e2
        refine ⟨β', _, _, ?_, q1, q2, q3⟩
        have h1 : ¬ (n * s > 2 ^ 24) := by omega
        by_cases hn0 : n * s = 0
        · simp only [hzs, hn0] at e1
          simp only [Instr.buildSlice, Sem.run_bind, run_under ht, run_szOf hs, Result.andThen_ok, hn0, if_true, if_neg (show ¬ (0 > 2 ^ 24) by omega), Sem.run_pure]
          rw [mapRange0] at e1 ⊢
          rw [e1]; rfl
        · simp only [Instr.buildSlice, Sem.run_bind, run_under ht, run_szOf hs, Result.andThen_ok, if_neg h1, if_neg hn0, hzr, Sem.run_pure, hzs, e1]
          rfl
      · cases e
    · cases e
  · cases e

theorem makeSliceE_ok {t : Nat} {l c a : AV} {vl vc : Value} (r : HR β ω K w0 h w) (e : makeSliceE P t l c h = some (a, h')) (rl : VR β ω l vl) (rc : VR β ω c vc) : Ok P β ω K w0 w h (Instr.makeSlice t vl vc) a h' := by
  unfold makeSliceE at e
  split at e
  · rename_i elem k l k' c ht
    split at e
    · rename_i l c s z i hl hc hs hz hi
      replace e := cond_some e
      obtain ⟨hx, e⟩ := e
      obtain ⟨hx, c6⟩ := and_t hx
      obtain ⟨hx, c5⟩ := and_t hx
      obtain ⟨hx, c4⟩ := and_t hx
      obtain ⟨hx, c3⟩ := and_t hx
      obtain ⟨c1, c2⟩ := and_t hx
      rw [ble_iff] at c1 c2 c3
      rw [beq_iff'] at c4
      rw [blt_iff] at c5
      simp only [Option.some.injEq, Prod.mk.injEq] at e
      obtain ⟨rfl, rfl⟩ := e
      obtain rfl := natOf_eq hl
      obtain rfl := natOf_eq hc
      simp only [VR] at rl rc; subst rl rc
      obtain ⟨zv, hzv, hzr⟩ := run_zeroOf hz
      have rz : VRs β ω z.cells zv.cells.toList := VR.cells' (ofVal_VR hzv) (ofVal_any hzv)
      have hzs : zv.cells.size = s := by have := rz.length; simpa [c4] using this
      have rr := rep_VRs rz (by omega) c
      rw [hzs] at rr
      obtain ⟨β', q1, q2, q3⟩ := newSl_ok (s := s) (elem := elem) (l := l) (c := c) r (rep_one c6) rr
      refine ⟨β', _, _, ?_, q1, q2, q3⟩
      have w1 : IntKind.i64.wrap (l : Int) = l := wrap_fit _ _ (by show l < 9223372036854775808; omega)
      have w2 : IntKind.i64.wrap (c : Int) = c := wrap_fit _ _ (by show c < 9223372036854775808; omega)
      have hb : i.bytes * c ≤ 1000 * 1000000 := Nat.mul_le_mul c3 c2
      have hcond : ((decide ((c : Int) < 0) || decide ((i.bytes : Int) * (c : Int) > 2 ^ 48)) || decide ((l : Int) < 0) || decide ((l : Int) > (c : Int))) = false := by
        have : ¬ ((i.bytes : Int) * (c : Int) > 2 ^ 48) := by
          rw [← Int.natCast_mul]; omega
        simp only [this]
        simp; omega
      by_cases hn0 : c * s = 0
      · have hc0 : c = 0 := by rcases Nat.mul_eq_zero.1 hn0 with hh | hh <;> omega
        subst hc0
        obtain rfl : l = 0 := by omega
        rw [Nat.zero_mul, mapRange0]
        simp only [Instr.makeSlice, Sem.run_bind, run_under ht, Result.andThen_ok, asInt, asIntOf, Sem.run_pure, typeInfo, hi, run_program, w1, w2, hcond, Bool.false_eq_true, if_false, run_askRoom, Int.toNat_natCast, run_szOf hs, Nat.zero_mul, if_true, mapRange0]
        rfl
      · simp only [Instr.makeSlice, Sem.run_bind, run_under ht, Result.andThen_ok, asInt, asIntOf, Sem.run_pure, typeInfo, hi, run_program, w1, w2, hcond, if_neg hn0, Bool.false_eq_true, if_false, run_askRoom, Int.toNat_natCast, run_szOf hs, hzr, hzs]
        rfl
    · cases e
  · cases e

end Go.Ev
