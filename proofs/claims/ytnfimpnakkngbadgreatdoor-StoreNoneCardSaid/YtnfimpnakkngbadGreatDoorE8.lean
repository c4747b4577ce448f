/- The evaluator: growth of slices. -/
import Derived.Test.YtnfimpnakkngbadGreatDoorE7
import Derived.Deep.Upon
set_option linter.unusedVariables false
set_option linter.unusedSimpArgs false
namespace Go.Ev
open Go

variable {P : Program} {β : Bij} {ω : Opq} {K : Nat → Prop} {w0 w : World} {h h' : Heap}

def Ok (P : Program) (β : Bij) (ω : Opq) (K : Nat → Prop) (w0 w : World) (h : Heap) (m : Sem Value) (a : AV) (h' : Heap) : Prop :=
  ∃ β' v w', m.run P w = .ok v w' ∧ VR β' ω a v ∧ HR β' ω K w0 h' w' ∧ St h β h' β'

theorem VR.cells' {a : AV} {v : Value} (r : VR β ω a v) (hn : a ≠ .any) : VRs β ω a.cells v.cells.toList := by
  cases a with
  | tup vs => obtain ⟨xs, rfl, p⟩ := r; exact .one ⟨xs, rfl, p⟩
  | any => exact absurd rfl hn
  | _ => exact VR.cells r rfl
theorem ofVal_any {v : Value} {a : AV} (h : ofVal v = some a) : a ≠ .any := by
  rintro rfl
  unfold ofVal at h
  split at h
  · simp at h
  · split at h <;> simp [AV.undef] at h
  · have := ofCell_one h; cases this
theorem one_any {a : AV} (h : a.cells.all AV.one = true) : a ≠ .any := by
  rintro rfl; simp [AV.cells, AV.one] at h

theorem zero_size {t : TypeId} {z : AV} (e : zeroOf P t = some z) : ∃ i v, P.info? t = some i ∧ i.zero = some v ∧ v.cells.size = z.cells.length ∧ ∀ (β : Bij) (ω : Opq), VRs β ω z.cells v.cells.toList := by
  unfold zeroOf at e
  cases hi : P.info? t with
  | none => simp [hi] at e
  | some i =>
    simp only [hi, Option.bind_some, Option.bind_eq_some_iff] at e
    obtain ⟨v, hv, hz⟩ := e
    have : ∀ (β : Bij) (ω : Opq), VRs β ω z.cells v.cells.toList := fun β ω => VR.cells' (ofVal_VR hz) (ofVal_any hz)
    exact ⟨i, v, rfl, hv, by have := (this (fun _ => none) ⟨fun _ => .nilIface, fun _ => .vb false, fun _ _ => .vb false, fun _ => rfl, fun _ => false⟩).length; simpa using this, this⟩

theorem lenE_ok {x : AV} {n : Nat} {v : Value} (e : lenE x = some n) (rx : VR β ω x v) (w : World) : (Builtin.lenOf v).run P w = .ok n w := by
  cases x <;> simp only [lenE, Option.some.injEq, reduceCtorEq] at e <;> subst e <;> simp only [VR] at rx
  · subst rx; simp [Builtin.lenOf, ByteArray.size]
  · subst rx; rfl
  · obtain ⟨L, _, rfl⟩ := rx; rfl
  · obtain ⟨L, c, _, _, rfl⟩ := rx; rfl
  · obtain ⟨L, a, c, _, rfl, _⟩ := rx; rfl
  · obtain ⟨a, rfl⟩ := rx; rfl

theorem bytes_VRs : ∀ (l : List UInt8), VRs β ω (l.map fun b => AV.int .u8 b.toNat) (l.map fun b => Value.int .u8 b.toNat)
  | [] => .nil
  | b :: r => .cons rfl (bytes_VRs r)

theorem firstE_ok {s n : Nat} {x : AV} {l : List AV} {v : Value} (r : HR β ω K w0 h w) (e : firstE s n x h = some l) (rx : VR β ω x v) :
    ∃ us, VRs β ω l us ∧ l.all AV.one = true ∧ ∀ w' : World, w'.heap = w.heap → (Builtin.firstCells s n v).run P w' = .ok us.toArray w' := by
  have row : ∀ (b o : Nat) (L : Loc) (a : Addr) (c m : Nat), β b = some L → a = ⟨L.blk, L.off + o, none⟩ → v = .slice (some a) m c →
      (match h.get b with
        | some (.cells _ _ cs) => bif Nat.ble (o + n * s) cs.length && ((cs.drop o).take (n * s)).all AV.one then some ((cs.drop o).take (n * s)) else none
        | _ => none) = some l →
      ∃ us, VRs β ω l us ∧ l.all AV.one = true ∧ ∀ w' : World, w'.heap = w.heap → (Builtin.firstCells s n v).run P w' = .ok us.toArray w' := by
    intro b o L a c m hL ha hv e
    subst ha hv
    split at e
    · rename_i el fz cs hg
      obtain ⟨hc, e⟩ := cond_some e
      obtain ⟨hc, ho⟩ := and_t hc
      rw [ble_iff] at hc
      simp only [Option.some.injEq] at e; subst e
      obtain ⟨us, h1, h2, h3⟩ := read_cells r hg hL hc
      refine ⟨us, h1, ho, fun w' hw' => ?_⟩
      refine run_firstCells_some w' s n _ m c us h2 (fun j u hj => ?_)
      rw [add_mk]
      have := h3 j u hj
      simp only [World.cell?] at this ⊢
      rw [hw']; exact this
    · cases e
  have nil : ∀ (a : Option Addr) (c m : Nat), v = .slice a m c → n = 0 → ∀ w' : World, (Builtin.firstCells s n v).run P w' = .ok (([] : List Value).toArray) w' := by
    intro a c m hv hn w'
    subst hv hn
    cases a with
    | none => rfl
    | some a =>
      have := run_firstCells_some (P := P) w' s 0 a m c [] (by simp) (by simp)
      exact this
  cases x with
  | nils =>
    simp only [firstE] at e
    obtain ⟨hc, e⟩ := cond_some e
    simp only [Option.some.injEq] at e; subst e
    simp only [VR] at rx
    exact ⟨[], .nil, rfl, fun w' _ => nil _ _ _ rx (by simpa using hc) w'⟩
  | es b o sz =>
    simp only [firstE] at e
    obtain ⟨hc, e⟩ := cond_some e
    simp only [Option.some.injEq] at e; subst e
    simp only [VR] at rx; obtain ⟨L, a, c, _, rx, _⟩ := rx
    exact ⟨[], .nil, rfl, fun w' _ => nil _ _ _ rx (by simpa using hc) w'⟩
  | es0 =>
    simp only [firstE] at e
    obtain ⟨hc, e⟩ := cond_some e
    simp only [Option.some.injEq] at e; subst e
    simp only [VR] at rx; obtain ⟨a, rx⟩ := rx
    exact ⟨[], .nil, rfl, fun w' _ => nil _ _ _ rx (by simpa using hc) w'⟩
  | str t =>
    simp only [firstE, Option.some.injEq] at e; subst e
    simp only [VR] at rx; subst rx
    refine ⟨_, bytes_VRs _, List.all_eq_true.2 fun x hx => by obtain ⟨_, _, rfl⟩ := List.mem_map.1 hx; rfl, fun w' _ => ?_⟩
    simp only [Builtin.firstCells, Sem.run_pure, ByteArray.data_extract]
    congr 1
    apply Array.ext'
    simp
  | sl b o len cap =>
    simp only [VR] at rx; obtain ⟨L, hL, rfl⟩ := rx
    exact row b o L _ _ _ hL rfl rfl e
  | us b o len sz =>
    simp only [VR] at rx; obtain ⟨L, c, hL, _, rfl⟩ := rx
    exact row b o L _ _ _ hL rfl rfl e
  | _ => simp [firstE] at e

/-- A new row, with what the model leaves open behind it. -/
theorem growRow_ok (r : HR β ω K w0 h w) (elem : TypeId) (cs : List AV) (us : List Value) (tail : Array Value) (ho : cs.all AV.oneA = true) (rv : VRs β ω cs us) (ext : Nat) (he : ext = us.length + tail.size) (fz : Nat) :
    HR (β.add h.next ⟨w.heap.size, 0, ext⟩) ω K w0 (h.new (.cells elem fz cs)) (w.drew.alloc (.cells (us.toArray ++ tail) elem)) ∧ St h β (h.new (.cells elem fz cs)) (β.add h.next ⟨w.heap.size, 0, ext⟩) := by
  refine r.drew.new _ _ 0 ext ?_
  have hle : Le β (β.add h.next ⟨w.heap.size, 0, ext⟩) := by
    intro b L hb
    simp only [Bij.add]
    by_cases e : b = h.next
    · subst e; rw [r.fresh _ (Nat.le_refl _)] at hb; cases hb
    · rw [if_neg e]; exact hb
  have hl := rv.length
  refine ⟨us.toArray ++ tail, 0, 0, us, rfl, by simp; omega, by simp only []; omega, ho, VRs.mono hle _ _ rv, fun i hi => ?_, fun i _ _ => by omega, fun _ => rfl⟩
  rw [Nat.zero_add, Array.getElem?_append_left (by simp; omega)]
  simp

/-- A row goes on under a new name. -/
theorem HR.rename {w' : World} (r : HR β ω K w0 h w) (b : Nat) (x0 x : Blk) (L L' : Loc) (hg : h.get b = some x0) (hb : β b = some L) (hwm : h.wm ≤ b) (hbk : L'.blk = L.blk)
    (hother : ∀ i, i ≠ L.blk → w'.heap[i]? = w.heap[i]?) (hsz : w'.heap.size = w.heap.size) (hos : w'.os = w.os) (htp : w'.tape = w.tape) (hout : w'.output = w.output)
    (hx : BR (β.add h.next L') ω L' w'.heap[L.blk]? x) : HR (β.add h.next L') ω K w0 ((h.put b none).new x) w' ∧ St h β ((h.put b none).new x) (β.add h.next L') := by
  have hlt := r.lt b L hb
  have hbn : b < h.next := by
    rcases Nat.lt_or_ge b h.next with hh | hh
    · exact hh
    · rw [r.fresh b hh] at hb; cases hb
  have hget : ∀ b', ((h.put b none).new x).get b' = if b' = h.next then (if h.next < 65536 then some x else none) else if b' = b then none else h.get b' := by
    intro b'
    rw [Heap.get_new, Heap.next_put]
    split
    · rfl
    · rw [Heap.get_put]; split
      · split <;> rfl
      · rfl
  have hle : Le β (β.add h.next L') := by
    intro b' M hb'
    simp only [Bij.add]
    by_cases e : b' = h.next
    · subst e; rw [r.fresh _ (Nat.le_refl _)] at hb'; cases hb'
    · rw [if_neg e]; exact hb'
  refine ⟨⟨?_, ?_, ?_, ?_, ?_, r.kin, ?_, ?_, ?_, hos.trans r.os, htp.trans r.tape, hout.trans r.out⟩, ⟨by simp, fun b' hb' => ?_, fun b' hb' hn => ?_, rfl⟩⟩
  · intro b' y M hg' hb'
    rw [hget] at hg'
    simp only [Bij.add] at hb'
    by_cases e : b' = h.next
    · rw [if_pos e] at hg' hb'
      simp only [Option.some.injEq] at hb'; subst hb'
      split at hg'
      · simp only [Option.some.injEq] at hg'; subst hg'
        rw [hbk]; exact hx
      · cases hg'
    · rw [if_neg e] at hg' hb'
      split at hg'
      · cases hg'
      · rename_i e2
        rw [hother _ (r.sep b' b y x0 M L hg' hg hb' hb e2)]
        exact (r.blk b' y M hg' hb').mono hle
  · intro b1 b2 y1 y2 M1 M2 g1 g2 m1 m2 hne
    rw [hget] at g1 g2
    simp only [Bij.add] at m1 m2
    by_cases e1 : b1 = h.next
    · rw [if_pos e1] at m1; simp only [Option.some.injEq] at m1; subst m1
      by_cases e2 : b2 = h.next
      · exact absurd (e1.trans e2.symm) hne
      · rw [if_neg e2] at g2 m2
        split at g2
        · cases g2
        · rename_i e3
          rw [hbk]; exact r.sep b b2 x0 y2 L M2 hg g2 hb m2 (Ne.symm e3)
    · rw [if_neg e1] at g1 m1
      split at g1
      · cases g1
      · rename_i e3
        by_cases e2 : b2 = h.next
        · rw [if_pos e2] at m2; simp only [Option.some.injEq] at m2; subst m2
          rw [hbk]; exact r.sep b1 b y1 x0 M1 L g1 hg m1 hb e3
        · rw [if_neg e2] at g2 m2
          split at g2
          · cases g2
          · exact r.sep b1 b2 y1 y2 M1 M2 g1 g2 m1 m2 hne
  · intro b' hb'
    simp only [Heap.next_new, Heap.next_put] at hb'
    simp only [Bij.add]; rw [if_neg (by omega)]; exact r.fresh b' (by omega)
  · intro b' hb'
    simp only [Heap.next_new, Heap.next_put] at hb'
    rw [hget, if_neg (by omega), if_neg (by omega)]; exact r.fget b' (by omega)
  · intro b' M hb'
    rw [hsz]
    simp only [Bij.add] at hb'
    split at hb'
    · simp only [Option.some.injEq] at hb'; subst hb'; rw [hbk]; exact hlt
    · exact r.lt b' M hb'
  · intro i hi
    rw [hother i (fun e => r.free b x0 L hg hwm hb (e ▸ hi))]; exact r.keep i hi
  · intro b' y M hg' hw' hb'
    rw [hget] at hg'
    simp only [Bij.add] at hb'
    by_cases e : b' = h.next
    · rw [if_pos e] at hb'; simp only [Option.some.injEq] at hb'; subst hb'
      rw [hbk]; exact r.free b x0 L hg hwm hb
    · rw [if_neg e] at hg' hb'
      split at hg'
      · cases hg'
      · exact r.free b' y M hg' hw' hb'
  · rw [hsz]; exact r.size
  · simp only [Bij.add]; rw [if_neg (by omega)]
  · left
    rw [hget, if_neg (by omega), if_neg]
    intro e; subst e; rw [hb] at hn; cases hn

end Go.Ev
