/- The evaluator: new blocks, now or later. -/
import Derived.Test.YtnfimpnakkngbadGreatDoorE19
set_option linter.unusedVariables false
set_option linter.unusedSimpArgs false
namespace Go.Ev
open Go

variable {E : Env} {β : Bij} {ω : Opq} {K : Nat → Prop} {w0 w : World} {h h' : Heap}

theorem newVar_form {t : TypeId} {z v : AV} (e : newVarE t z h = some (v, h')) : z.cells.all AV.one = true ∧ v = .ptr h.next 0 ∧ h' = h.new (.cells t 0 z.cells) := by
  unfold newVarE at e
  obtain ⟨hc, e⟩ := cond_some e
  simp only [Option.some.injEq, Prod.mk.injEq] at e
  exact ⟨hc, e.1.symm, e.2.symm⟩
theorem sNew_form {t : TypeId} {z : Option AV} {v : AV} (e : sNew t h z = .val v h') : ∃ z0, z = some z0 ∧ z0.cells.all AV.one = true ∧ v = .ptr h.next 0 ∧ h' = h.new (.cells t 0 z0.cells) ∧ ∀ h2, sNew t h2 z = .val (.ptr h2.next 0) (h2.new (.cells t 0 z0.cells)) := by
  cases z with
  | none => cases e
  | some z0 =>
    obtain ⟨h1, h2, h3⟩ := newVar_form (oh_val e)
    exact ⟨z0, rfl, h1, h2, h3, fun h2 => by simp only [sNew, newVarE, h1, cond_true, oh]⟩

/-- What a run adds, and how it is told. -/
structure AllocV (E : Env) (β : Bij) (ω : Opq) (m : Sem Next) (mk : Nat → AV) (x : Blk) (mkV : Nat → Value) (obj : Obj) (ext : Nat) : Prop where
  run : ∀ w, m.run E.P w = .ok (.value (mkV w.heap.size)) (w.alloc obj)
  blk : ∀ (β' : Bij) n, Le β β' → BR β' ω ⟨n, 0, ext⟩ (some obj) x
  val : ∀ (β' : Bij) b n, β' b = some ⟨n, 0, ext⟩ → VR β' ω (mk b) (mkV n)

theorem newVar_V {m : Sem Next} {t : TypeId} {z : AV} {zv : Value} (rz : VR β ω z zv) (ho : z.cells.all AV.one = true) (hrun : ∀ w, m.run E.P w = .ok (.value (.pointer (some ⟨w.heap.size, 0, none⟩))) (w.alloc (.cells zv.cells t))) :
    AllocV E β ω m (fun b => .ptr b 0) (.cells t 0 z.cells) (fun n => .pointer (some ⟨n, 0, none⟩)) (.cells zv.cells t) zv.cells.size := by
  refine ⟨hrun, fun β' n hle => ?_, fun β' b n hb => ⟨_, hb, rfl⟩⟩
  have rc := VR.cells' rz (one_any ho)
  have hl := rc.length
  simp only [Array.length_toList] at hl
  exact ⟨zv.cells, 0, 0, zv.cells.toList, rfl, by simp, by simp only []; omega, all_A ho, VRs.mono hle _ _ rc, fun i hi => by simp, fun i _ _ => by omega, fun _ => rfl⟩

theorem newSl_V {m : Sem Next} {elem l c : Nat} {cs : List AV} {us : Array Value} (rv : VRs β ω cs us.toList) (ho : cs.all AV.one = true)
    (hrun : ∀ w, m.run E.P w = .ok (.value (.slice (some ⟨w.heap.size, 0, none⟩) l c)) (w.alloc (.cells us elem))) :
    AllocV E β ω m (fun b => .sl b 0 l c) (.cells elem 0 cs) (fun n => .slice (some ⟨n, 0, none⟩) l c) (.cells us elem) us.size := by
  refine ⟨hrun, fun β' n hle => ?_, fun β' b n hb => ⟨_, hb, rfl⟩⟩
  have hl := rv.length
  simp only [Array.length_toList] at hl
  exact ⟨us, 0, 0, us.toList, rfl, by simp, by simp only []; omega, all_A ho, VRs.mono hle _ _ rv, fun i hi => by simp, fun i _ _ => by omega, fun _ => rfl⟩

theorem buildSlice_form {t n : Nat} {parts : List (Nat × AV)} {v : AV} (e : buildSliceE E.P t n parts h = some (v, h')) :
    ∃ elem cs, v = .sl h.next 0 n n ∧ h' = h.new (.cells elem 0 cs) ∧ (∀ h2, buildSliceE E.P t n parts h2 = some (.sl h2.next 0 n n, h2.new (.cells elem 0 cs))) ∧
      ∀ (β : Bij) (ω : Opq) (vparts : Array (Nat × Value)), parts.map (·.1) = vparts.toList.map (·.1) → VRs β ω (parts.map (·.2)) (vparts.toList.map (·.2)) →
        ∃ us : Array Value, VRs β ω cs us.toList ∧ cs.all AV.one = true ∧ ∀ w, (Instr.buildSlice t n vparts).run E.P w = .ok (.slice (some ⟨w.heap.size, 0, none⟩) n n) (w.alloc (.cells us elem)) := by
  have e0 := e
  unfold buildSliceE at e
  split at e
  · rename_i elem ht
    split at e
    · rename_i s z hs hz
      replace e := cond_some e
      obtain ⟨hc, e⟩ := e
      split at e
      · rename_i cs hf
        replace e := cond_some e
        obtain ⟨ho, e⟩ := e
        simp only [Option.some.injEq, Prod.mk.injEq] at e
        obtain ⟨rfl, rfl⟩ := e
        refine ⟨elem, cs, rfl, rfl, fun h2 => ?_, fun β ω vparts hm hv => ?_⟩
        · unfold buildSliceE
          simp only [ht, hs, hz, hc, cond_true, hf, ho]
        · obtain ⟨hc, c3⟩ := and_t hc
          obtain ⟨c1, c2⟩ := and_t hc
          rw [beq_iff'] at c1
          rw [blt_iff] at c2
          rw [ble_iff] at c3
          obtain ⟨zv, hzv, hzr⟩ := run_zeroOf hz
          have rz : VRs β ω z.cells zv.cells.toList := VR.cells' (ofVal_VR hzv) (ofVal_any hzv)
          have hzs : zv.cells.size = s := by have := rz.length; simpa [c1] using this
          have rr := rep_VRs rz (by omega) n
          rw [hzs] at rr
          obtain ⟨cells', e1, e2, e3⟩ := fill_ok (placeV := fun i => some (i * s, s)) (fun i x hx => hx) parts vparts.toList _ cs _ hf rr hm hv
          refine ⟨cells', e2, ho, fun w => ?_⟩
          have h1 : ¬ (n * s > 2 ^ 24) := by omega
          by_cases hn0 : n * s = 0
          · simp only [hzs, hn0] at e1
            simp only [Instr.buildSlice, Sem.run_bind, run_under ht, run_szOf hs, Result.andThen_ok, hn0, if_true, if_neg (show ¬ (0 > 2 ^ 24) by omega), Sem.run_pure]
            rw [mapRange0] at e1 ⊢
            rw [e1]; rfl
          · simp only [Instr.buildSlice, Sem.run_bind, run_under ht, run_szOf hs, Result.andThen_ok, if_neg h1, if_neg hn0, hzr, Sem.run_pure, hzs, e1]
            rfl
      · cases e
    · cases e
  · cases e

theorem makeSlice_form {t : Nat} {l c v : AV} (e : makeSliceE E.P t l c h = some (v, h')) :
    ∃ elem nl nc cs, v = .sl h.next 0 nl nc ∧ h' = h.new (.cells elem 0 cs) ∧ (∀ h2, makeSliceE E.P t l c h2 = some (.sl h2.next 0 nl nc, h2.new (.cells elem 0 cs))) ∧
      ∀ (β : Bij) (ω : Opq) (vl vc : Value), VR β ω l vl → VR β ω c vc →
        ∃ us : Array Value, VRs β ω cs us.toList ∧ cs.all AV.one = true ∧ ∀ w, (Instr.makeSlice t vl vc).run E.P w = .ok (.slice (some ⟨w.heap.size, 0, none⟩) nl nc) (w.alloc (.cells us elem)) := by
  unfold makeSliceE at e
  split at e
  · rename_i elem k l k' c ht
    split at e
    · rename_i l c s z i hl hc hs hz hi
      replace e := cond_some e
      obtain ⟨hx, e⟩ := e
      simp only [Option.some.injEq, Prod.mk.injEq] at e
      obtain ⟨rfl, rfl⟩ := e
      refine ⟨elem, l, c, _, rfl, rfl, fun h2 => ?_, fun β ω vl vc rl rc => ?_⟩
      · unfold makeSliceE
        simp only [ht, hl, hc, hs, hz, hi, hx, cond_true]
      · obtain ⟨hx, c6⟩ := and_t hx
        obtain ⟨hx, c5⟩ := and_t hx
        obtain ⟨hx, c4⟩ := and_t hx
        obtain ⟨hx, c3⟩ := and_t hx
        obtain ⟨c1, c2⟩ := and_t hx
        rw [ble_iff] at c1 c2 c3
        rw [beq_iff'] at c4
        rw [blt_iff] at c5
        obtain rfl := natOf_eq hl
        obtain rfl := natOf_eq hc
        simp only [VR] at rl rc; subst rl rc
        obtain ⟨zv, hzv, hzr⟩ := run_zeroOf hz
        have rz : VRs β ω z.cells zv.cells.toList := VR.cells' (ofVal_VR hzv) (ofVal_any hzv)
        have hzs : zv.cells.size = s := by have := rz.length; simpa [c4] using this
        have rr := rep_VRs rz (by omega) c
        rw [hzs] at rr
        refine ⟨_, rr, rep_one c6, fun w => ?_⟩
        have w1 : IntKind.i64.wrap (l : Int) = l := wrap_fit _ _ (by show l < 9223372036854775808; omega)
        have w2 : IntKind.i64.wrap (c : Int) = c := wrap_fit _ _ (by show c < 9223372036854775808; omega)
        have hb : i.bytes * c ≤ 1000 * 1000000 := Nat.mul_le_mul c3 c2
        have hcond : ((decide ((c : Int) < 0) || decide ((i.bytes : Int) * (c : Int) > 2 ^ 48)) || decide ((l : Int) < 0) || decide ((l : Int) > (c : Int))) = false := by
          have : ¬ ((i.bytes : Int) * (c : Int) > 2 ^ 48) := by
            rw [← Int.natCast_mul]; omega
          simp only [this]
          simp; omega
        by_cases hn0 : c * s = 0
        · have hc0 : c = 0 := by rcases Nat.mul_eq_zero.1 hn0 with hh | hh <;> omega
          subst hc0
          obtain rfl : l = 0 := by omega
          rw [Nat.zero_mul, mapRange0]
          simp only [Instr.makeSlice, Sem.run_bind, run_under ht, Result.andThen_ok, asInt, asIntOf, Sem.run_pure, typeInfo, hi, run_program, w1, w2, hcond, Bool.false_eq_true, if_false, run_askRoom, Int.toNat_natCast, run_szOf hs, Nat.zero_mul, if_true, mapRange0]
          rfl
        · simp only [Instr.makeSlice, Sem.run_bind, run_under ht, Result.andThen_ok, asInt, asIntOf, Sem.run_pure, typeInfo, hi, run_program, w1, w2, hcond, if_neg hn0, Bool.false_eq_true, if_false, run_askRoom, Int.toNat_natCast, run_szOf hs, hzr, hzs]
          rfl
    · cases e
  · cases e

theorem alloc_ok {ρA : Operand → Option AV} {ρ : Operand → Value} {o : Oper} {v : AV} (ha : isAlloc o = true) (e : stepOp E ρA o h = .val v h') :
    ∃ mk x, AllocA E ρA o mk x ∧ v = mk h.next ∧ h' = h.new x ∧ ((∀ y ∈ o.op.operands, ∀ a, ρA y = some a → VR β ω a (ρ y)) → ∃ mkV obj ext, AllocV E β ω (execOp ρ o) mk x mkV obj ext) := by
  rw [stepOp_alloc ha] at e
  have hA : ∀ {mk : Nat → AV} {x : Blk}, (∀ h2, stepC E ρA o h2 = .val (mk h2.next) (h2.new x)) → AllocA E ρA o mk x := fun hh => ⟨fun h2 => (stepOp_alloc ha h2).trans (hh h2)⟩
  obtain ⟨dst, op, ty, pos, after, guard⟩ := o
  cases op <;> first | (cases ha; done) | skip
  case alloc t =>
    obtain ⟨z0, hz, ho, rfl, rfl, hall⟩ := sNew_form (t := t) (z := zeroOf E.P t) e
    refine ⟨fun b => .ptr b 0, _, hA hall, rfl, rfl, fun _ => ?_⟩
    obtain ⟨zv, z1, z2⟩ := zero_VR hz
    exact ⟨_, _, _, newVar_V (z1 β ω) ho fun w => by
      show (do pure (.value (← Instr.alloc t true (.tuple #[]))) : Sem Next).run E.P w = _
      simp only [Instr.alloc, Sem.run_bind, z2, Result.andThen_ok]; rfl⟩
  case box t y =>
    obtain ⟨z0, hz, ho, rfl, rfl, hall⟩ := sNew_form (t := t) (z := ρA y) e
    refine ⟨fun b => .ptr b 0, _, hA hall, rfl, rfl, fun hr => ?_⟩
    exact ⟨_, _, _, newVar_V (hr y (by simp [Op.operands]) z0 hz) ho fun w => rfl⟩
  case buildSlice t n ps =>
    have e : sBuildSlice E.P t n h (evps ρA ps.toList) = .val v h' := e
    cases hx : evps ρA ps.toList with
    | none => rw [hx] at e; cases e
    | some l =>
      rw [hx] at e
      obtain ⟨elem, cs, rfl, rfl, hall, hrun⟩ := buildSlice_form (oh_val e)
      refine ⟨fun b => .sl b 0 n n, _, hA (fun h2 => by show sBuildSlice E.P t n h2 (evps ρA ps.toList) = _; rw [hx]; simp only [sBuildSlice, hall, oh]), rfl, rfl, fun hr => ?_⟩
      have hops : ∃ q1 : l.map (·.1) = ((ps.map fun (i, x) => (i, ρ x)).toList.map (·.1)), VRs β ω (l.map (·.2)) ((ps.map fun (i, x) => (i, ρ x)).toList.map (·.2)) := by
        have main : ∀ (qs : List (Nat × Operand)) (l : List (Nat × AV)), (∀ y ∈ qs.map (·.2), ∀ a, ρA y = some a → VR β ω a (ρ y)) → evps ρA qs = some l →
            l.map (·.1) = (qs.map fun p => (p.1, ρ p.2)).map (·.1) ∧ VRs β ω (l.map (·.2)) ((qs.map fun p => (p.1, ρ p.2)).map (·.2)) := by
          intro qs
          induction qs with
          | nil => intro l _ hl; simp only [evps, Option.some.injEq] at hl; subst hl; exact ⟨rfl, .nil⟩
          | cons q r ih =>
            intro l hq hl
            obtain ⟨i, y⟩ := q
            simp only [evps] at hl
            split at hl
            · rename_i v vs h1 h2
              simp only [Option.some.injEq] at hl; subst hl
              obtain ⟨g1, g2⟩ := ih vs (fun y hy => hq y (.tail _ hy)) h2
              exact ⟨by simpa using g1, .cons (hq y (.head _) v h1) g2⟩
            · cases hl
        obtain ⟨g1, g2⟩ := main ps.toList l (fun y hy => hr y (by simpa [Op.operands] using hy)) hx
        exact ⟨by simpa using g1, by simpa using g2⟩
      obtain ⟨q1, q2⟩ := hops
      obtain ⟨us, u1, u2, u3⟩ := hrun β ω _ q1 q2
      exact ⟨_, _, _, newSl_V u1 u2 fun w => by
        show (do pure (.value (← Instr.buildSlice t n (ps.map fun (i, x) => (i, ρ x)))) : Sem Next).run E.P w = _
        simp only [Sem.run_bind, u3, Result.andThen_ok, Sem.run_pure]⟩
  case makeMap t y =>
    have e : sMap E.P t h (evo ρA y) = .val v h' := e
    unfold sMap at e
    split at e
    · rename_i kt et ht
      have fin : ∀ m : Sem Next, (∀ w, m.run E.P w = .ok (.value (.map (some w.heap.size))) (w.alloc (.map #[] 0))) → AllocV E β ω m (fun b => .map b) (.map [] 0) (fun n => .map (some n)) (.map #[] 0) 0 :=
        fun m hm => ⟨hm, fun β' n _ => ⟨#[], rfl, .nil⟩, fun β' b n hb => ⟨_, hb, rfl⟩⟩
      split at e
      · rename_i hy
        simp only [Res.val.injEq] at e; obtain ⟨rfl, rfl⟩ := e
        refine ⟨fun b => .map b, _, hA (fun h2 => by show sMap E.P t h2 (evo ρA y) = _; simp only [sMap, ht, hy]), rfl, rfl, fun hr => ⟨_, _, _, fin _ fun w => ?_⟩⟩
        cases y with
        | none => rfl
        | some y => simp only [evo, Option.map_eq_some_iff] at hy; obtain ⟨a, _, hh⟩ := hy; cases hh
      · rename_i k n hy
        simp only [Res.val.injEq] at e; obtain ⟨rfl, rfl⟩ := e
        refine ⟨fun b => .map b, _, hA (fun h2 => by show sMap E.P t h2 (evo ρA y) = _; simp only [sMap, ht, hy]), rfl, rfl, fun hr => ⟨_, _, _, fin _ fun w => ?_⟩⟩
        cases y with
        | none => simp [evo] at hy
        | some y =>
          simp only [evo, Option.map_eq_some_iff] at hy; obtain ⟨a, hay, hh⟩ := hy
          simp only [Option.some.injEq] at hh; subst hh
          have hv := hr y (by simp [Op.operands]) _ hay
          simp only [VR] at hv
          show (do pure (.value (← Instr.makeMap t ((some y).map ρ))) : Sem Next).run E.P w = _
          simp only [Option.map_some, hv, Instr.makeMap, Sem.run_bind, run_under ht, Result.andThen_ok, asInt, asIntOf, Sem.run_pure, run_newObj]
          rfl
      · cases e
    · cases e
  case makeSlice t x y =>
    have e : sMakeSlice E.P t h (ρA x) (ρA y) = .val v h' := e
    cases hx : ρA x with
    | none => rw [hx] at e; cases e
    | some a =>
      cases hy : ρA y with
      | none => rw [hx, hy] at e; cases e
      | some b =>
        rw [hx, hy] at e
        obtain ⟨elem, nl, nc, cs, rfl, rfl, hall, hrun⟩ := makeSlice_form (oh_val e)
        refine ⟨fun b => .sl b 0 nl nc, _, hA (fun h2 => by show sMakeSlice E.P t h2 (ρA x) (ρA y) = _; rw [hx, hy]; simp only [sMakeSlice, hall, oh]), rfl, rfl, fun hr => ?_⟩
        obtain ⟨us, u1, u2, u3⟩ := hrun β ω (ρ x) (ρ y) (hr x (by simp [Op.operands]) a hx) (hr y (by simp [Op.operands]) b hy)
        exact ⟨_, _, _, newSl_V u1 u2 fun w => by
          show (do pure (.value (← Instr.makeSlice t (ρ x) (ρ y))) : Sem Next).run E.P w = _
          simp only [Sem.run_bind, u3, Result.andThen_ok, Sem.run_pure]⟩

end Go.Ev
