/- The evaluator: code, loops, calls. -/
import Derived.Test.YtokdlolhbcjghacGreatE26
import Derived.Scope
set_option linter.unusedVariables false
set_option linter.unusedSimpArgs false
namespace Go.Ev
open Go

variable {E : Env} {ω : Opq}

def exitR : Ex → Exit
  | .norm => .normal
  | .exit id => .exit id
  | .ret => .ret

/-- A loop that is under way. -/
def LoopAt (P : Program) (c : Code) (Q : Exit → Act → World → Prop) (a : Act) (w : World) : Prop :=
  ∀ (b : Frame) (k : List Item) (cs : List Frame), ∃ e a' w', Q e a' w' ∧ Arrives P (lone (b.at a (.code c :: .inLoop c :: k)) cs w) b k cs e a' w'
theorem loopAt_wp {P : Program} {c : Code} {Q : Exit → Act → World → Prop} {a : Act} {w : World} (h : LoopAt P c Q a w) : (Code.loop c).wp P Q a w := by
  intro b k cs
  obtain ⟨e, a', w', hq, harr⟩ := h b k cs
  exact ⟨e, a', w', hq, .of_steps (.one step_loop) harr⟩
theorem loopAt_round {P : Program} {c : Code} {Q : Exit → Act → World → Prop} {a : Act} {w : World} (h : c.wp P (Exit.then (LoopAt P c Q) Q) a w) : LoopAt P c Q a w := by
  intro b k cs
  obtain ⟨e, a₁, w₁, hq, harr⟩ := h b (.inLoop c :: k) cs
  cases e with
  | normal =>
    obtain ⟨e₂, a₂, w₂, hq₂, harr₂⟩ := hq b k cs
    exact ⟨e₂, a₂, w₂, hq₂, .of_steps (Steps.trans harr (.one step_inLoop)) harr₂⟩
  | exit id => exact ⟨_, a₁, w₁, hq, .pass (x := .inLoop c) rfl (fun _ _ => .inl (by simp)) harr⟩
  | goto l => exact ⟨_, a₁, w₁, hq, .pass (x := .inLoop c) rfl (fun _ _ => .inl (by simp)) harr⟩
  | ret => exact ⟨_, a₁, w₁, hq, .pass (x := .inLoop c) rfl (fun _ _ => .inl (by simp)) harr⟩
  | panic ch => exact ⟨_, a₁, w₁, hq, .pass (x := .inLoop c) rfl (fun _ _ => .inl (by simp)) harr⟩
  | outgrown => exact ⟨_, a₁, w₁, hq, .pass (x := .inLoop c) rfl (fun _ _ => .inl (by simp)) harr⟩

/-- What the continuation promises. -/
def KOk (ω : Opq) (K : Nat → Prop) (w0 : World) (hs : Heap) (βs : Bij) (k : Ex → Fr → Heap → Bool) (Q : Exit → Act → World → Prop) : Prop :=
  ∀ e a h β act w, k e a h = true → FrR β ω a act → HR β ω K w0 h w → St hs βs h β → Q (exitR e) act w
theorem KOk.later {K : Nat → Prop} {w0 : World} {hs h : Heap} {βs β : Bij} {k : Ex → Fr → Heap → Bool} {Q : Exit → Act → World → Prop} (q : KOk ω K w0 hs βs k Q) (s : St hs βs h β) : KOk ω K w0 h β k Q :=
  fun e a h' β' act w he f r s' => q e a h' β' act w he f r (s.trans s')

def CodeS (E : Env) (ω : Opq) (n : Nat) : Prop := ∀ (c : Code) (a : Fr) (h : Heap) (k : Ex → Fr → Heap → Bool), ev E n Bool boolAlg (.code c a h k) = true →
  ∀ (K : Nat → Prop) (w0 : World) (β : Bij) (act : Act) (w : World) (Q : Exit → Act → World → Prop), HR β ω K w0 h w → FrR β ω a act → KOk ω K w0 h β k Q → c.wp E.P Q act w
def LoopS (E : Env) (ω : Opq) (n : Nat) : Prop := ∀ (c : Code) (a : Fr) (h : Heap) (k : Ex → Fr → Heap → Bool), ev E n Bool boolAlg (.loop c a h k) = true →
  ∀ (K : Nat → Prop) (w0 : World) (β : Bij) (act : Act) (w : World) (Q : Exit → Act → World → Prop), HR β ω K w0 h w → FrR β ω a act → KOk ω K w0 h β k Q → LoopAt E.P c Q act w
def OpsS (E : Env) (ω : Opq) (n : Nat) : Prop := ∀ (ops : Array Oper) (rest : List Oper) (i : Nat) (a : Fr) (h : Heap) (k : Fr → Heap → Bool), ops.toList.drop i = rest → ev E n Bool boolAlg (.ops ops.toList rest a h k) = true →
  ∀ (K : Nat → Prop) (w0 : World) (β : Bij) (act : Act) (w : World) (Q : Exit → Act → World → Prop), HR β ω K w0 h w → FrR β ω a act →
    (∀ a' h' β' act' w', k a' h' = true → FrR β' ω a' act' → HR β' ω K w0 h' w' → St h β h' β' → Q .normal act' w') → wpOps E.P ops Q (List.range' i rest.length) act w
def BodyS (E : Env) (ω : Opq) (n : Nat) : Prop := ∀ (f : FuncId) (args : List AV) (h : Heap) (k : AV → Heap → Bool), ev E n Bool boolAlg (.body f args h k) = true →
  ∀ (K : Nat → Prop) (w0 : World) (β : Bij) (w : World) (us : List Value), HR β ω K w0 h w → VRs β ω args us →
    Calls E.P f us.toArray w (fun e w' => ∃ u β' v h', e = .returned u ∧ k v h' = true ∧ VR β' ω v u ∧ HR β' ω K w0 h' w' ∧ St h β h' β')

theorem FrP.put' {β : Bij} {a : Fr} {act : Act} (f : FrR β ω a act) (dst : Option Tmp) {v : AV} {u : Value} (r : VR β ω v u) : FrR β ω (a.put dst v) (act.put dst u) :=
  (FrP.put f dst r).weaken fun _ hh => hh.1

/-! ### Operations in the order of the text -/
theorem ops_step (hE : E.Ok ω) {n : Nat} (hc : CallS E ω n) (ho : OpsS E ω n) : OpsS E ω (n + 1) := by
  intro ops rest i a h k hdrop he K w0 β act w Q r f hk
  cases rest with
  | nil => exact hk a h β act w he f r (.refl _ _)
  | cons o rest =>
    have hlt : i < ops.toList.length := by
      rcases Nat.lt_or_ge i ops.toList.length with hh | hh
      · exact hh
      · rw [List.drop_eq_nil_of_le hh] at hdrop; cases hdrop
    have hcons := List.drop_eq_getElem_cons hlt
    rw [hdrop] at hcons
    obtain ⟨e1, e2⟩ := List.cons.inj hcons
    have hoi : ops[i]? = some o := by rw [e1]; simp at hlt; simp [hlt]
    have hd2 : ops.toList.drop (i + 1) = rest := e2.symm
    simp only [List.length_cons, List.range'_succ]
    show (match ops[i]? with
      | none => _
      | some o => _)
    rw [hoi]
    simp only []
    have he : oWant E (ev E n) boolAlg ops.toList rest o a h k (wantedE ops.toList a o) = true := he
    cases hw : wantedE ops.toList a o with
    | none => rw [hw] at he; cases he
    | some b =>
      rw [hw] at he
      rw [wantedR_ok f rfl hw]
      cases b with
      | false =>
        simp only [Bool.false_eq_true, if_false]
        exact ho ops rest (i + 1) _ h k hd2 he K w0 β _ w Q r (f.put' o.dst ⟨#[], rfl, rfl⟩) hk
      | true =>
        simp only [if_true]
        left
        refine go_wp hc r (stepOp_ok hE r f.opR o) he ?_
        intro β' v u h' w' hkk hv hr' hst'
        exact ho ops rest (i + 1) _ h' k hd2 hkk K w0 β' _ w' Q hr' ((f.mono (hst'.Le r)).put' o.dst hv) fun a2 h2 β2 act2 w2 g1 g2 g3 g4 => hk a2 h2 β2 act2 w2 g1 g2 g3 (hst'.trans g4)

/-! ### Code -/
theorem code_step (hE : E.Ok ω) (hm : E.P.follows .mixedOrders = true) {n : Nat} (hc : ∀ m, m ≤ n → CallS E ω m) (hk1 : CodeS E ω n) (hl : LoopS E ω n) (ho : OpsS E ω n) : CodeS E ω (n + 1) := by
  intro c a h k he K w0 β act w Q r f q
  have he : evCode (ev E n) boolAlg c a h k = true := he
  cases c with
  | skip => exact wp_skip (q .norm a h β act w he f r (.refl _ _))
  | label l => exact wp_label (q .norm a h β act w he f r (.refl _ _))
  | ret => exact wp_ret (q .ret a h β act w he f r (.refl _ _))
  | exit id => exact wp_exit (q (.exit id) a h β act w he f r (.refl _ _))
  | seq x y =>
    refine wp_seq (hk1 x a h _ he K w0 β act w _ r f ?_)
    intro e a' h' β' act' w' hke hf hr hst
    cases e with
    | norm => exact hk1 y a' h' k hke K w0 β' act' w' Q hr hf (q.later hst)
    | exit id => exact q (.exit id) a' h' β' act' w' hke hf hr hst
    | ret => exact q .ret a' h' β' act' w' hke hf hr hst
  | cond c x y =>
    have he : cCond (ev E n) boolAlg x y a h k (a.ev c) = true := he
    unfold cCond at he
    split at he
    · rename_i b hb
      have hv := f.opR c _ hb
      simp only [VR] at hv
      refine wp_cond hv ?_
      have := hk1 _ a h k he K w0 β act w Q r f q
      cases b <;> exact this
    · cases he
  | block id b =>
    refine wp_block (hk1 b a h _ he K w0 β act w _ r f ?_)
    intro e a' h' β' act' w' hke hf hr hst
    cases e with
    | norm => exact q .norm a' h' β' act' w' hke hf hr hst
    | ret => exact q .ret a' h' β' act' w' hke hf hr hst
    | exit i =>
      simp only [kBlock] at hke
      show if i = id then _ else _
      by_cases hi : i = id
      · rw [if_pos hi]
        rw [beq_iff'.2 hi] at hke
        exact q .norm a' h' β' act' w' hke hf hr hst
      · rw [if_neg hi]
        rw [beq_f hi] at hke
        exact q (.exit i) a' h' β' act' w' hke hf hr hst
  | loop b => exact loopAt_wp (hl b a h k he K w0 β act w Q r f q)
  | scope b =>
    refine wp_scope_straight (hk1 b a h k he K w0 β act w _ r f ?_)
    intro e a' h' β' act' w' hke hf hr hst
    cases e <;> exact q _ a' h' β' act' w' hke hf hr hst
  | region id ops draw =>
    have he : cRegion (ev E n) boolAlg ops.toList draw a h k = true := he
    cases draw with
    | false =>
      refine wp_region ?_
      have := ho ops ops.toList 0 a h (kNorm k) rfl he K w0 β act w Q r f (fun a' h' β' act' w' g1 g2 g3 g4 => q .norm a' h' β' act' w' g1 g2 g3 g4)
      rw [List.range_eq_range']
      simpa using this
    | true =>
      have he : cDraw (ev E n) boolAlg ops.toList a h k (plan ops.toList) = true := he
      cases hp : plan ops.toList with
      | none => rw [hp] at he; cases he
      | some rr =>
        rw [hp] at he
        obtain ⟨l, pk⟩ := plan_ok hp
        refine wp_region_any hm ?_
        have hno : ∀ i, ¬ Lis (Array.replicate ops.size false) i := by
          intro i hi
          unfold Lis at hi
          simp [Array.getD_eq_getD_getElem?, Array.getElem?_replicate] at hi
          split at hi <;> simp at hi
        refine dops_ok (hs := h) (βs := β) hE pk (N := n) (fun m hmn => hc m (by omega)) (k := kNorm k) (fun a' h' β' act' w' g1 g2 g3 g4 => q .norm a' h' β' act' w' g1 g2 g3 g4)
          ops.size n 0 rr [] a h (fun _ => 0) _ β act _ (Nat.le_refl _) he ?_ ?_
        · refine ⟨r.drew, .refl _ _, by simp, fun x _ hx => absurd hx (hno _), fun x _ hx => absurd hx (hno _), fun x _ hx => by simp at hx, pk.eager, pk.rl, fun x hx _ => pk.lr x hx, ?_, fun x _ hx => by simp at hx, fun x _ y _ hx => by simp at hx⟩
          exact f.weaken fun _ hh => hh.elim
        · unfold left
          refine Nat.le_trans (List.length_filter_le _ _) (by simp)
  | _ => cases he

theorem loop_step {n : Nat} (hk1 : CodeS E ω n) (hl : LoopS E ω n) : LoopS E ω (n + 1) := by
  intro c a h k he K w0 β act w Q r f q
  refine loopAt_round (hk1 c a h _ he K w0 β act w _ r f ?_)
  intro e a' h' β' act' w' hke hf hr hst
  cases e with
  | norm => exact hl c a' h' k hke K w0 β' act' w' Q hr hf (q.later hst)
  | exit id => exact q (.exit id) a' h' β' act' w' hke hf hr hst
  | ret => exact q .ret a' h' β' act' w' hke hf hr hst

end Go.Ev
