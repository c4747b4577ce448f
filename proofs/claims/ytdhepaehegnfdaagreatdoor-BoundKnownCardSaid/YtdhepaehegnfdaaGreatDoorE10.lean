import Derived.Test.YtdhepaehegnfdaaGreatDoorE9
set_option linter.unusedVariables false
set_option linter.unusedSimpArgs false
namespace Go.Ev
open Go
variable {P : Program} {β : Bij} {ω : Opq} {K : Nat → Prop} {w0 w : World} {h h' : Heap}
theorem b19 {s : Nat} {y : AV} {l : List AV} (e : P1 s 0 y h = some l) : l = [] := by
 cases y <;> simp only [P1, reduceCtorEq] at e <;> first
  | (simpa using e)
  | (split at e
     · replace e := (a8 e).2; simpa using e
     · cases e)
theorem bR1 {ts : Array TypeId} {ty : TypeId} {x y a : AV} {vx vy : Value} (r : HR β ω K w0 h w) (e : c60 P ts x y h = some (a, h')) (rx : VR β ω x vx) (ry : VR β ω y vy) :
 Ok P β ω K w0 w h (Builtin.copy_ ts ty #[vx, vy]) a h' := by
 unfold c60 at e
 split at e
 · rename_i elem ht
   simp only [Option.bind_eq_some_iff] at ht
   obtain ⟨t, h0, ht⟩ := ht
   split at e
   · rename_i s lx ly hs hlx hly
     simp only [Option.bind_eq_some_iff] at e
     obtain ⟨new, ae0, e⟩ := e
     obtain ⟨us, u1, u2, u3⟩ := W0 (P := P) r ae0 ry
     have hrun : ∀ (base : Option Addr) (c : Nat), vx = .slice base lx c → (Builtin.copy_ ts ty #[vx, vy]).run P w =
      ((match base with | some a => storeCells a us | none => pure () : Sem Unit) >>= fun _ => pure (goInt (Nat.min ly lx : Nat))).run P w := by
      intro base c hv
      subst hv
      have h3 := u3 w rfl
      have h4 := aG9 (P := P) hly ry w
      cases base <;> simp only [Builtin.copy_, h0, Sem.run_bind, b9 ht, k7 hs, h4, h3, Result.andThen_ok, List.getElem?_toArray, List.getElem?_cons_zero, List.getElem?_cons_succ, Sem.run_pure]
     have nil : lx = 0 → us = [] := by
      intro hz; subst hz
      have : Nat.min ly 0 = 0 := Nat.min_zero ly
      rw [this] at ae0
      rw [b19 ae0] at u1; exact u1
     cases x <;> simp only [c10, reduceCtorEq, Option.map_eq_some_iff, Option.some.injEq, Prod.mk.injEq] at e
     · obtain ⟨rfl, rfl⟩ := e
       exact ⟨β, _, w, by rw [hrun none 0 (by simpa [VR, show lx = 0 by simpa [ae1] using hlx.symm] using rx)]; rfl, rfl, r, .refl _ _⟩
     · rename_i b o len cap
       obtain ⟨h1, he, rfl, rfl⟩ := e
       simp only [ae1, Option.some.injEq] at hlx; subst hlx
       simp only [VR] at rx; obtain ⟨L, hL, rx⟩ := rx
       obtain ⟨p1, p2, p3⟩ := D5 (P := P) r he hL u1
       exact ⟨β, _, _, by rw [hrun _ _ rx, Sem.run_bind, p1]; rfl, rfl, p2, p3⟩
     · rename_i b o len cap
       obtain ⟨h1, he, rfl, rfl⟩ := e
       simp only [ae1, Option.some.injEq] at hlx; subst hlx
       simp only [VR] at rx; obtain ⟨L, c, hL, _, rx⟩ := rx
       obtain ⟨p1, p2, p3⟩ := D5 (P := P) r he hL u1
       exact ⟨β, _, _, by rw [hrun _ _ rx, Sem.run_bind, p1]; rfl, rfl, p2, p3⟩
     · obtain ⟨rfl, rfl⟩ := e
       simp only [ae1, Option.some.injEq] at hlx; subst hlx
       obtain rfl := nil rfl
       simp only [VR] at rx; obtain ⟨L, ad, c, _, rx, _⟩ := rx
       exact ⟨β, _, w, by rw [hrun (some ad) c rx]; rfl, rfl, r, .refl _ _⟩
     · obtain ⟨rfl, rfl⟩ := e
       simp only [ae1, Option.some.injEq] at hlx; subst hlx
       obtain rfl := nil rfl
       simp only [VR] at rx; obtain ⟨ad, rx⟩ := rx
       exact ⟨β, _, w, by rw [hrun (some ad) 0 rx]; rfl, rfl, r, .refl _ _⟩
   · cases e
 · cases e
theorem bb5 (r : HR β ω K w0 h w) {elem l c s : Nat} {cs : List AV} {us : Array Value} (ho : cs.all AV.one = true) (rv : VRs β ω cs us.toList) :
 ∃ β', VR β' ω (.sl h.next 0 l c) (.slice (some ⟨w.heap.size, 0, none⟩) l c) ∧ HR β' ω K w0 (h.new (.cells elem 0 cs)) (w.alloc (.cells us elem)) ∧ St h β (h.new (.cells elem 0 cs)) β' := by
 have hl := rv.length
 simp only [Array.length_toList] at hl
 obtain ⟨p1, p2⟩ := aR3 r elem cs us ho rv us.size (Nat.le_refl _) (by omega)
 exact ⟨_, ⟨_, Bij.add_self _ _ _, rfl⟩, p1, p2⟩
theorem R0 (f : Nat → Value) : (Array.range 0).map f = #[] := by simp [Array.range]
theorem ay4 {t n : Nat} {parts : List (Nat × AV)} {vparts : Array (Nat × Value)} {a : AV} (r : HR β ω K w0 h w) (e : D2 P t n parts h = some (a, h'))
 (hm : parts.map (·.1) = vparts.toList.map (·.1)) (hv : VRs β ω (parts.map (·.2)) (vparts.toList.map (·.2))) : Ok P β ω K w0 w h (Instr.buildSlice t n vparts) a h' := by
 unfold D2 at e
 split at e
 · rename_i elem ht
   split at e
   · rename_i s z hs hz
     obtain ⟨hc, e⟩ := a8 e
     obtain ⟨hc, c3⟩ := g9 hc
     obtain ⟨c1, c2⟩ := g9 hc
     rw [j0] at c1
     rw [k8] at c2
     rw [j2] at c3
     split at e
     · rename_i cs hf
       obtain ⟨ho, e⟩ := a8 e
       simp only [Option.some.injEq, Prod.mk.injEq] at e
       obtain ⟨rfl, rfl⟩ := e
       obtain ⟨zv, hzv, hzr⟩ := D7 hz
       have rz : VRs β ω z.cells zv.cells.toList := VR.cells' (I0 hzv) (Q9 hzv)
       have hzs : zv.cells.size = s := by have := rz.length; simpa [c1] using this
       have rr := ab2 rz (by omega) n
       rw [hzs] at rr
       obtain ⟨cells', e1, e2, e3⟩ := am5 (placeV := fun i => some (i * s, s)) (fun i x hx => hx) parts vparts.toList _ cs _ hf rr hm hv
       obtain ⟨β', q1, q2, q3⟩ := bb5 (s := s) (elem := elem) (l := n) (c := n) r ho e2
       refine ⟨β', _, _, ?_, q1, q2, q3⟩
       have h1 : ¬ (n * s > 2 ^ 24) := by omega
       by_cases hn0 : n * s = 0
       · simp only [hzs, hn0] at e1
         simp only [Instr.buildSlice, Sem.run_bind, b9 ht, k7 hs, Result.andThen_ok, hn0, if_true, if_neg (show ¬ (0 > 2 ^ 24) by omega), Sem.run_pure]
         rw [R0] at e1 ⊢
         rw [e1]; rfl
       · simp only [Instr.buildSlice, Sem.run_bind, b9 ht, k7 hs, Result.andThen_ok, if_neg h1, if_neg hn0, hzr, Sem.run_pure, hzs, e1]
         rfl
     · cases e
   · cases e
 · cases e
theorem aH1 {t : Nat} {l c a : AV} {vl vc : Value} (r : HR β ω K w0 h w) (e : F7 P t l c h = some (a, h')) (rl : VR β ω l vl) (rc : VR β ω c vc) : Ok P β ω K w0 w h (Instr.makeSlice t vl vc) a h' := by
 unfold F7 at e
 split at e
 · rename_i elem k l k' c ht
   split at e
   · rename_i l c s z i hl hc hs hz hi
     replace e := a8 e
     obtain ⟨hx, e⟩ := e
     obtain ⟨hx, c6⟩ := g9 hx
     obtain ⟨hx, c5⟩ := g9 hx
     obtain ⟨hx, c4⟩ := g9 hx
     obtain ⟨hx, c3⟩ := g9 hx
     obtain ⟨c1, c2⟩ := g9 hx
     rw [j2] at c1 c2 c3
     rw [j0] at c4
     rw [k8] at c5
     simp only [Option.some.injEq, Prod.mk.injEq] at e
     obtain ⟨rfl, rfl⟩ := e
     obtain rfl := C9 hl
     obtain rfl := C9 hc
     simp only [VR] at rl rc; subst rl rc
     obtain ⟨zv, hzv, hzr⟩ := D7 hz
     have rz : VRs β ω z.cells zv.cells.toList := VR.cells' (I0 hzv) (Q9 hzv)
     have hzs : zv.cells.size = s := by have := rz.length; simpa [c4] using this
     have rr := ab2 rz (by omega) c
     rw [hzs] at rr
     obtain ⟨β', q1, q2, q3⟩ := bb5 (s := s) (elem := elem) (l := l) (c := c) r (aH0 c6) rr
     refine ⟨β', _, _, ?_, q1, q2, q3⟩
     have w1 : IntKind.i64.wrap (l : Int) = l := a52 _ _ (by show l < 9223372036854775808; omega)
     have w2 : IntKind.i64.wrap (c : Int) = c := a52 _ _ (by show c < 9223372036854775808; omega)
     have hb : i.bytes * c ≤ 1000 * 1000000 := Nat.mul_le_mul c3 c2
     have hcond : ((decide ((c : Int) < 0) || decide ((i.bytes : Int) * (c : Int) > 2 ^ 48)) || decide ((l : Int) < 0) || decide ((l : Int) > (c : Int))) = false := by
      have : ¬ ((i.bytes : Int) * (c : Int) > 2 ^ 48) := by
       rw [← Int.natCast_mul]; omega
      simp only [this]
      simp; omega
     by_cases hn0 : c * s = 0
     · have hc0 : c = 0 := by rcases Nat.mul_eq_zero.1 hn0 with hh | hh <;> omega
       subst hc0
       obtain rfl : l = 0 := by omega
       rw [Nat.zero_mul, R0]
       simp only [Instr.makeSlice, Sem.run_bind, b9 ht, Result.andThen_ok, asInt, asIntOf, Sem.run_pure, typeInfo, hi, run_program, w1, w2, hcond, Bool.false_eq_true, if_false, run_askRoom, Int.toNat_natCast, k7 hs, Nat.zero_mul, if_true, R0]
       rfl
     · simp only [Instr.makeSlice, Sem.run_bind, b9 ht, Result.andThen_ok, asInt, asIntOf, Sem.run_pure, typeInfo, hi, run_program, w1, w2, hcond, if_neg hn0, Bool.false_eq_true, if_false, run_askRoom, Int.toNat_natCast, k7 hs, hzr, hzs]
       rfl
   · cases e
 · cases e
end Go.Ev
