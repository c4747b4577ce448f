/- The evaluator: a call told on a heap of her own; the names of the blocks changed. -/
import Derived.Test.YtgfdophigegblaaGreatE33
set_option linter.unusedVariables false
set_option linter.unusedSimpArgs false
namespace Go.Ev
open Go

/-! ### Names changed -/
mutual
def ren (ρ : Nat → Nat) : AV → AV
  | .ptr b o => .ptr (ρ b) o
  | .sl b o n c => .sl (ρ b) o n c
  | .us b o n s => .us (ρ b) o n s
  | .es b o s => .es (ρ b) o s
  | .map b => .map (ρ b)
  | .func fn a c => .func fn (rens ρ a) (rens ρ c)
  | .yield b => .yield (ρ b)
  | .iface t v => .iface t (ren ρ v)
  | .agg l => .agg (rens ρ l)
  | .tup l => .tup (rens ρ l)
  | .osl b x y s => .osl (ρ b) x y s
  | .optr b x j s => .optr (ρ b) x j s
  | .ous b x s => .ous (ρ b) x s
  | x => x
def rens (ρ : Nat → Nat) : List AV → List AV
  | [] => []
  | a :: r => ren ρ a :: rens ρ r
end
theorem rens_length (ρ : Nat → Nat) : ∀ l : List AV, (rens ρ l).length = l.length
  | [] => rfl
  | a :: r => by simp only [rens, List.length_cons, rens_length ρ r]
theorem ren_oneA (ρ : Nat → Nat) : ∀ l : List AV, l.all AV.oneA = true → (rens ρ l).all AV.oneA = true
  | [], _ => rfl
  | a :: r, h => by
    simp only [List.all_cons, Bool.and_eq_true] at h
    simp only [rens, List.all_cons, Bool.and_eq_true]
    refine ⟨?_, ren_oneA ρ r h.2⟩
    have := h.1
    cases a <;> simp only [ren] <;> first | exact this | rfl

variable {ω : Opq}
mutual
theorem VR_ren {β β2 : Bij} {ρ : Nat → Nat} (hb : ∀ i L, β i = some L → β2 (ρ i) = some L) : ∀ (x : AV) (v : Value), VR β ω x v → VR β2 ω (ren ρ x) v
  | .bool _, v, r => by simp only [ren]; exact r
  | .int _ _, v, r => by simp only [ren]; exact r
  | .str _, v, r => by simp only [ren]; exact r
  | .nilp, v, r => by simp only [ren]; exact r
  | .ptr b _, v, ⟨L, e, q⟩ => by simp only [ren]; exact ⟨L, hb _ _ e, q⟩
  | .glob _, v, r => by simp only [ren]; exact r
  | .nils, v, r => by simp only [ren]; exact r
  | .sl b _ _ _, v, ⟨L, e, q⟩ => by simp only [ren]; exact ⟨L, hb _ _ e, q⟩
  | .us b _ _ _, v, ⟨L, c, e, q⟩ => by simp only [ren]; exact ⟨L, c, hb _ _ e, q⟩
  | .es b _ _, v, ⟨L, a, c, e, q⟩ => by simp only [ren]; exact ⟨L, a, c, hb _ _ e, q⟩
  | .es0, v, r => by simp only [ren]; exact r
  | .nilm, v, r => by simp only [ren]; exact r
  | .map b, v, ⟨L, e, q⟩ => by simp only [ren]; exact ⟨L, hb _ _ e, q⟩
  | .nilf, v, r => by simp only [ren]; exact r
  | .func fn x y, v, ⟨n, p, q, e, r1, r2⟩ => by simp only [ren]; exact ⟨n, p, q, e, VRs_ren hb x _ r1, VRs_ren hb y _ r2⟩
  | .yield b, v, ⟨L, e, q⟩ => by simp only [ren]; exact ⟨L, hb _ _ e, q⟩
  | .nili, v, r => by simp only [ren]; exact r
  | .iface t x, v, ⟨y, e, q⟩ => by simp only [ren]; exact ⟨y, e, VR_ren hb x y q⟩
  | .agg l, v, ⟨xs, e, q⟩ => by simp only [ren]; exact ⟨xs, e, VRs_ren hb l _ q⟩
  | .tup l, v, ⟨xs, e, q⟩ => by simp only [ren]; exact ⟨xs, e, VRs_ren hb l _ q⟩
  | .opq n, v, r => by simp only [ren]; exact r
  | .oint k e, v, r => by simp only [ren]; exact r
  | .ostr e, v, r => by simp only [ren]; exact r
  | .obool e, v, r => by simp only [ren]; exact r
  | .osl b x y sz, v, r => by
    simp only [ren]
    rcases r with ⟨L, c, a, e, q⟩ | q
    · exact .inl ⟨L, c, a, hb _ _ e, q⟩
    · exact .inr q
  | .optr b x j sz, v, ⟨L, e, q⟩ => by simp only [ren]; exact ⟨L, hb _ _ e, q⟩
  | .ous b x sz, v, r => by
    simp only [ren]
    rcases r with ⟨L, c, e, q⟩ | q
    · exact .inl ⟨L, c, hb _ _ e, q⟩
    · exact .inr q
  | .atl _, v, r => by simp only [ren]; exact r
  | .any, v, r => trivial
theorem VRs_ren {β β2 : Bij} {ρ : Nat → Nat} (hb : ∀ i L, β i = some L → β2 (ρ i) = some L) : ∀ (l : List AV) (vs : List Value), VRs β ω l vs → VRs β2 ω (rens ρ l) vs
  | [], vs, r => r
  | a :: l, vs, ⟨v, vr, e, p, q⟩ => ⟨v, vr, e, VR_ren hb a v p, VRs_ren hb l vr q⟩
end

def renE (ρ : Nat → Nat) (e : Ent) : Ent := ⟨ren ρ e.key, ren ρ e.val, e.born⟩
/-- A block under other names; what is told of no row or map is given up. -/
def renB (ρ : Nat → Nat) : Blk → Option Blk
  | .cells e fz cs => some (.cells e fz (rens ρ cs))
  | .arr e sig l => some (.arr e sig l)
  | .map es c => some (.map (es.map (renE ρ)) c)
  | _ => none
theorem ERs_ren {β β2 : Bij} {ρ : Nat → Nat} (hb : ∀ i L, β i = some L → β2 (ρ i) = some L) : ∀ {es : List Ent} {m : List MapEntry}, ERs β ω es m → ERs β2 ω (es.map (renE ρ)) m
  | [], _, .nil => .nil
  | e :: r, _, .cons p q z => .cons (VR_ren hb _ _ p) (VR_ren hb _ _ q) (ERs_ren hb z)
theorem BR_ren {β β2 : Bij} {ρ : Nat → Nat} (hb : ∀ i L, β i = some L → β2 (ρ i) = some L) {L : Loc} {o : Option Obj} {x y : Blk} (e : renB ρ x = some y) (r : BR β ω L o x) : BR β2 ω L o y := by
  cases x <;> simp only [renB, Option.some.injEq, reduceCtorEq] at e
  · subst e
    obtain ⟨C, lo, hi, vs, q1, q2, q3, q4, q5, q6⟩ := r
    exact ⟨C, lo, hi, vs, q1, q2, by rw [rens_length]; exact q3, ren_oneA ρ _ q4, VRs_ren hb _ _ q5, by rw [rens_length]; exact q6⟩
  · subst e; exact r
  · subst e
    obtain ⟨E, q1, q2⟩ := r
    exact ⟨E, q1, ERs_ren hb q2⟩

/-! ### A heap of her own -/
variable {β β' : Bij} {ω2 : Opq} {K : Nat → Prop} {w0 w w' : World} {h hc h' h2 : Heap} {σ : List Nat} {mt : Nat}
def βof (β : Bij) (σ : List Nat) : Bij := fun i => (σ[i]?).bind β
/-- What the call leaves as it is: all but the blocks that she may write. -/
def Kof (β : Bij) (σ : List Nat) (mt : Nat) (w : World) (k : Nat) : Prop := k < w.heap.size ∧ ∀ i b L, mt ≤ i → σ[i]? = some b → β b = some L → k ≠ L.blk

theorem βof_some {i : Nat} {L : Loc} (e : βof β σ i = some L) : ∃ b, σ[i]? = some b ∧ β b = some L := by
  unfold βof at e
  cases hs : σ[i]? with
  | none => rw [hs] at e; cases e
  | some b => rw [hs] at e; exact ⟨b, rfl, e⟩
theorem βof_at {i b : Nat} (e : σ[i]? = some b) : βof β σ i = β b := by unfold βof; rw [e]; rfl
theorem nodup_at (hn : σ.Nodup) {i j b : Nat} (e1 : σ[i]? = some b) (e2 : σ[j]? = some b) : i = j := by
  obtain ⟨h1, g1⟩ := List.getElem?_eq_some_iff.1 e1
  obtain ⟨h2, g2⟩ := List.getElem?_eq_some_iff.1 e2
  exact (List.getElem_inj hn).1 (g1.trans g2.symm)

theorem frame_in (r : HR β ω K w0 h w) (hn : σ.Nodup) (hnx : hc.next = σ.length) (hwm : hc.wm = mt) (hg : ∀ i, hc.next ≤ i → hc.get i = none)
    (hb : ∀ i x b L, hc.get i = some x → σ[i]? = some b → β b = some L → BR (βof β σ) ω2 L w.heap[L.blk]? x)
    (hl : ∀ i x b, hc.get i = some x → σ[i]? = some b → ∃ y, h.get b = some y) : HR (βof β σ) ω2 (Kof β σ mt w) w hc w := by
  refine ⟨fun i x L g e => ?_, fun i j x y L M g1 g2 e1 e2 hne => ?_, fun i hi => ?_, hg, fun i L e => ?_, fun k hk => hk.1, fun k _ => rfl, fun i x L g hw e hk => ?_, Nat.le_refl _, rfl, rfl, rfl⟩
  · obtain ⟨b, e1, e2⟩ := βof_some e
    exact hb i x b L g e1 e2
  · obtain ⟨b, s1, b1⟩ := βof_some e1
    obtain ⟨c, s2, b2⟩ := βof_some e2
    obtain ⟨u, hu⟩ := hl i x b g1 s1
    obtain ⟨v, hv⟩ := hl j y c g2 s2
    exact r.sep b c u v L M hu hv b1 b2 (fun hh => hne (nodup_at hn s1 (hh ▸ s2)))
  · unfold βof
    rw [List.getElem?_eq_none (by omega)]; rfl
  · obtain ⟨b, _, e2⟩ := βof_some e
    exact r.lt b L e2
  · obtain ⟨b, e1, e2⟩ := βof_some e
    exact hk.2 i b L (by omega) e1 e2 rfl

/-- Where a block of hers lies in the caller's heap. -/
def ρof (σ : List Nat) (n : Nat) (i : Nat) : Nat := match σ[i]? with
  | some b => b
  | none => n + (i - σ.length)
def β2of (β β' : Bij) (σ : List Nat) (n : Nat) : Bij := fun b => if b < n then β b else β' (σ.length + (b - n))

theorem frame_out (r : HR β ω K w0 h w) (hn : σ.Nodup) (hnx : hc.next = σ.length) (hwm : hc.wm = mt)
    (hσ : ∀ (i b : Nat), σ[i]? = some b → b < h.next)
    (hmut : ∀ (i b : Nat), mt ≤ i → σ[i]? = some b → h.wm ≤ b ∧ (∃ L, β b = some L) ∧ ∃ y, h.get b = some y)
    (r' : HR β' ω2 (Kof β σ mt w) w h' w') (s' : St hc (βof β σ) h' β')
    (fin : Nat → Option Blk) (hfin : ∀ i x L, fin i = some x → β' i = some L → BR β' ω L w'.heap[L.blk]? x) (hlive : ∀ i x, fin i = some x → ∃ y, h'.get i = some y)
    (hnext : h2.next = h.next + (h'.next - σ.length)) (hwm2 : h2.wm = h.wm)
    (hold : ∀ b x, b < h.next → h2.get b = some x → (∃ i, mt ≤ i ∧ σ[i]? = some b ∧ (fin i).bind (renB (ρof σ h.next)) = some x) ∨ (∀ i, mt ≤ i → σ[i]? ≠ some b) ∧ h.get b = some x)
    (hnone : ∀ b, b < h.next → (∀ i, mt ≤ i → σ[i]? ≠ some b) → h2.get b = h.get b)
    (hnew : ∀ b x, h.next ≤ b → h2.get b = some x → (fin (σ.length + (b - h.next))).bind (renB (ρof σ h.next)) = some x)
    (hmt : mt ≤ σ.length) (hnext' : σ.length ≤ h'.next) :
    HR (β2of β β' σ h.next) ω K w0 h2 w' ∧ St h β h2 (β2of β β' σ h.next) := by
  have hw' : h'.wm = mt := s'.wm.trans hwm
  have hlow : ∀ b, b < h.next → β2of β β' σ h.next b = β b := fun b hb => if_pos hb
  have hhigh : ∀ b, h.next ≤ b → β2of β β' σ h.next b = β' (σ.length + (b - h.next)) := fun b hb => if_neg (by omega)
  have hρ : ∀ i L, β' i = some L → β2of β β' σ h.next (ρof σ h.next i) = some L := by
    intro i L e
    unfold ρof
    cases hs : σ[i]? with
    | some b =>
      have hlt : i < σ.length := (List.getElem?_eq_some_iff.1 hs).1
      show β2of β β' σ h.next b = some L
      rw [hlow b (hσ i b hs), ← βof_at (β := β) hs, ← s'.ext i (by omega)]; exact e
    | none =>
      have hge : σ.length ≤ i := List.getElem?_eq_none_iff.1 hs
      show β2of β β' σ h.next (h.next + (i - σ.length)) = some L
      rw [hhigh _ (by omega), show σ.length + (h.next + (i - σ.length) - h.next) = i by omega]; exact e
  have hle : Le β (β2of β β' σ h.next) := by
    intro b L e
    rcases Nat.lt_or_ge b h.next with hb | hb
    · rw [hlow b hb]; exact e
    · rw [r.fresh b hb] at e; cases e
  have hKK : ∀ k, K k → Kof β σ mt w k := fun k hk => ⟨Nat.lt_of_lt_of_le (r.kin k hk) r.size, fun i b L hi hs hL hh => by
    obtain ⟨g1, _, y, g2⟩ := hmut i b hi hs
    exact r.free b y L g2 g1 hL (hh ▸ hk)⟩
  have hother : ∀ b x L, (∀ i, mt ≤ i → σ[i]? ≠ some b) → h.get b = some x → β b = some L → Kof β σ mt w L.blk := fun b x L hne hg hL => ⟨r.lt b L hL, fun i c M hi hs hM => by
    obtain ⟨_, _, y, g2⟩ := hmut i c hi hs
    exact r.sep b c x y L M hg g2 hL hM (fun hh => hne i hi (hh ▸ hs))⟩
  -- what stands behind a name
  have kind : ∀ b x L, h2.get b = some x → β2of β β' σ h.next b = some L →
      (∃ i y, mt ≤ i ∧ β' i = some L ∧ fin i = some y ∧ renB (ρof σ h.next) y = some x ∧ ρof σ h.next i = b ∧ (∃ z, h'.get i = some z)) ∨ ((∀ i, mt ≤ i → σ[i]? ≠ some b) ∧ b < h.next ∧ h.get b = some x ∧ β b = some L) := by
    intro b x L hg hL
    rcases Nat.lt_or_ge b h.next with hb | hb
    · rw [hlow b hb] at hL
      rcases hold b x hb hg with ⟨i, hi, hs, hf⟩ | ⟨hne, hh⟩
      · obtain ⟨y, hy, hyx⟩ := Option.bind_eq_some_iff.1 hf
        have hlt : i < σ.length := (List.getElem?_eq_some_iff.1 hs).1
        refine .inl ⟨i, y, hi, ?_, hy, hyx, by unfold ρof; rw [hs], hlive i y hy⟩
        rw [s'.ext i (by omega), βof_at hs]; exact hL
      · exact .inr ⟨hne, hb, hh, hL⟩
    · rw [hhigh b hb] at hL
      obtain ⟨y, hy, hyx⟩ := Option.bind_eq_some_iff.1 (hnew b x hb hg)
      refine .inl ⟨_, y, by omega, hL, hy, hyx, ?_, hlive _ y hy⟩
      unfold ρof
      rw [List.getElem?_eq_none (by omega)]
      show h.next + (σ.length + (b - h.next) - σ.length) = b
      omega
  refine ⟨⟨fun b x L hg hL => ?_, fun b c x y L M hg1 hg2 hL hM hne => ?_, fun b hb => ?_, fun b hb => ?_, fun b L hL => ?_, r.kin, fun k hk => (r'.keep k (hKK k hk)).trans (r.keep k hk), fun b x L hg hw hL hk => ?_,
      Nat.le_trans r.size r'.size, r'.os.trans r.os, r'.tape.trans r.tape, r'.out.trans r.out⟩, ⟨by omega, hlow, fun b hb hno => ?_, hwm2⟩⟩
  · rcases kind b x L hg hL with ⟨i, y, _, e1, e2, e3, _, _⟩ | ⟨e1, _, e3, e4⟩
    · exact BR_ren hρ e3 (hfin i y L e2 e1)
    · rw [r'.keep _ (hother b x L e1 e3 e4)]
      exact (r.blk b x L e3 e4).mono hle
  · rcases kind b x L hg1 hL with ⟨i, u, a0, a1, a2, a3, a4, z1, a5⟩ | ⟨a1, a2, a3, a4⟩
    · rcases kind c y M hg2 hM with ⟨j, v, b0, b1, b2, b3, b4, z2, b5⟩ | ⟨b1, b2, b3, b4⟩
      · exact r'.sep i j z1 z2 L M a5 b5 a1 b1 (fun hh => hne (by rw [← a4, ← b4, hh]))
      · exact fun hh => r'.free i z1 L a5 (by omega) a1 (hh ▸ hother c y M b1 b3 b4)
    · rcases kind c y M hg2 hM with ⟨j, v, b0, b1, b2, b3, b4, z2, b5⟩ | ⟨b1, b2, b3, b4⟩
      · exact fun hh => r'.free j z2 M b5 (by omega) b1 (hh ▸ hother b x L a1 a3 a4)
      · exact r.sep b c x y L M a3 b3 a4 b4 hne
  · rw [hhigh b (by omega)]; exact r'.fresh _ (by omega)
  · cases hg : h2.get b with
    | none => rfl
    | some x =>
      obtain ⟨y, hy, _⟩ := Option.bind_eq_some_iff.1 (hnew b x (by omega) hg)
      obtain ⟨z, hz⟩ := hlive _ y hy
      rw [r'.fget _ (by omega)] at hz; cases hz
  · rcases Nat.lt_or_ge b h.next with hb | hb
    · rw [hlow b hb] at hL; exact Nat.lt_of_lt_of_le (r.lt b L hL) r'.size
    · rw [hhigh b hb] at hL; exact r'.lt _ L hL
  · rcases kind b x L hg hL with ⟨i, u, a0, a1, a2, a3, a4, z1, a5⟩ | ⟨a1, a2, a3, a4⟩
    · exact r'.free i z1 L a5 (by omega) a1 (hKK _ hk)
    · exact r.free b x L a3 (by omega) a4 hk
  · by_cases hm : ∃ i, mt ≤ i ∧ σ[i]? = some b
    · obtain ⟨i, hi, hs⟩ := hm
      obtain ⟨_, ⟨L, hL⟩, _⟩ := hmut i b hi hs
      rw [hno] at hL; cases hL
    · exact .inl (hnone b hb (fun i hi hs => hm ⟨i, hi, hs⟩))

end Go.Ev
