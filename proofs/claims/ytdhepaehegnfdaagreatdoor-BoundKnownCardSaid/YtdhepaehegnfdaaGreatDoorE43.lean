import Derived.Test.YtdhepaehegnfdaaGreatDoorE42
import Derived.Shelf.SlSortCmp.NoneTotal
set_option linter.unusedVariables false
set_option linter.unusedSimpArgs false
namespace Go.Ev
open Go
variable {E : Env} {β β' : Bij} {ω : Opq} {K : Nat → Prop} {w0 w w' : World} {h h' : Heap} {P : Program} {ρ : Go.Shelf.Ren}
theorem aK4 {l : List Value} {t : Nat} {v : Value} (h : l[t]? = some v) : (l.toArray)[t]! = v := by
 simp [h]
theorem bY1 {w w' : World} (hp : ∀ i, i < w.heap.size → w'.heap[i]? = w.heap[i]?) (hs : w.heap.size ≤ w'.heap.size) (ho : w'.os = w.os) (ht : w'.tape = w.tape) (hu : w'.output = w.output) (hd : w.drawn ≤ w'.drawn) :
 ∃ q os', w' = Go.Sort.grow (w.drewN q) os' := by
 refine ⟨w'.drawn - w.drawn, w'.heap.extract w.heap.size w'.heap.size, ?_⟩
 have hh : w'.heap = w.heap ++ w'.heap.extract w.heap.size w'.heap.size := by
  refine Array.ext_getElem? fun i => ?_
  rcases Nat.lt_or_ge i w.heap.size with h1 | h1
  · rw [hp i h1, Array.getElem?_append_left h1]
  · rw [Array.getElem?_append_right h1, Array.getElem?_extract]
    split
    · congr 1; omega
    · rw [Array.getElem?_eq_none (by omega)]
 obtain ⟨heap, tape, drawn, os, out⟩ := w'
 obtain ⟨heap0, tape0, drawn0, os0, out0⟩ := w
 simp only at hh ho ht hu hd hs
 subst ho ht hu
 show World.mk _ _ _ _ _ = World.mk _ _ _ _ _
 simp only [World.drewN, World.mk.injEq, and_true, true_and]
 exact ⟨hh, by omega⟩
theorem bp6 {blk off : Nat} {F C : Array Value} {e : TypeId} {fr : Nat × Nat} (hb : w.heap[blk]? = some (.cells C e fr)) : (Go.Sort.putRow id w blk off F).heap[blk]? = some (.cells (Go.Sort.putCells id off F C) e fr) := by
 simp [Go.Sort.putRow, Go.Sort.mapBlock, Array.getElem?_modify, hb, Go.Sort.onCells]
theorem af5 {blk off i : Nat} {F : Array Value} (hi : i ≠ blk) : (Go.Sort.putRow id w blk off F).heap[i]? = w.heap[i]? := by
 simp [Go.Sort.putRow, Go.Sort.mapBlock, Array.getElem?_modify, Ne.symm hi]
theorem ce6 {Ω : Opq → Prop} (hup : ∀ ω v0 l, Ω ω → Ω (ω.upd v0 l)) {f : FuncId} {nv : Nat} {c : FC} (ho : bG2 c nv = true) (h : bH5 E Ω f c) : C5 E Ω ⟨f, nv, c⟩ := fun ω hω args h' v h2 e => bI0 hup ho h hω e
theorem b59 {r : Val} : ∀ (s : List CT) (i j : Nat), (∀ t, t < s.length → ω.w (i + t) = r.toL.getD (j + t) default) → VRs β ω (ah8 s i) (a38 r s j)
 | [], _, _, _ => rfl
 | c :: s, i, j, h => by
   have h0 := h 0 (by simp)
   have ih := b59 s (i + 1) (j + 1) (fun t ht => by
    have := h (t + 1) (by simp; omega)
    rw [show i + 1 + t = i + (t + 1) by omega, show j + 1 + t = j + (t + 1) by omega]; exact this)
   refine .cons ?_ ih
   have := a60 (β := β) (ω := ω) c (.va i)
   rw [show den ω (.va i) = ω.w i from rfl, show ω.w i = r.toL.getD j default by simpa using h0] at this
   exact this
variable {E : Env} {β β' : Bij} {ω : Opq} {K : Nat → Prop} {w0 w w' : World} {h h' : Heap} {P : Program} {ρ : Go.Shelf.Ren}
theorem ar9 {α : Type} [Inhabited α] (f : α → Val) (sig : List CT) (l : List α) : Go.Sort.flatK (fun a => N0 sig (f a)) sig.length l.toArray = (j9 sig (l.map f)).toArray := by
 refine Go.Sort.ext_get! (by rw [Go.Sort.size_flatK, List.size_toArray, List.size_toArray, k9, List.length_map]) fun t ht => ?_
 have ht' : t < l.toArray.size * sig.length := by simpa using ht
 rw [Go.Sort.get_flatK _ _ _ _ ht']
 rw [List.size_toArray] at ht'
 have k0 : 0 < sig.length := by
  rcases Nat.eq_zero_or_pos sig.length with h | h
  · rw [h] at ht'; omega
  · exact h
 have hq : t / sig.length < l.length := (Nat.div_lt_iff_lt_mul k0).2 ht'
 have hr : t % sig.length < sig.length := Nat.mod_lt _ k0
 have := W3 (l := l.map f) hr (by rw [List.length_map]; exact hq)
 rw [Nat.mul_comm, Nat.div_add_mod] at this
 rw [aK4 this]
 have e1 : l.toArray[t / sig.length]! = l[t / sig.length] := by simp [hq]
 have e2 : (l.map f).getD (t / sig.length) (.vl []) = f l[t / sig.length] := by rw [List.getD_eq_getElem?_getD, List.getElem?_map, List.getElem?_eq_getElem hq]; rfl
 rw [e1, e2]
 simp [N0, hr]
def bg8 (P : Program) (g : FuncId) (cb : Array Value) (sig : List CT) (Q : Val → Prop) (cf : Val → Val → Int) (blk : Nat) (w0 : World) : Prop := ∀ (x y : Val), Q x → Q y → ∀ (w : World), blk < w.heap.size → w.heap[blk]? = w0.heap[blk]? →
 Calls P g (#[.agg (N0 sig x).toArray, .agg (N0 sig y).toArray] ++ cb) w fun e w' => e = .returned (.int .i64 (cf x y)) ∧ ∃ q os', w' = Go.Sort.grow (w.drewN q) os'
abbrev Sub (Q : Val → Prop) := {v : Val // Q v}
noncomputable def bp7 {Q : Val → Prop} [Inhabited (Sub Q)] (cf : Val → Val → Int) (l : List (Sub Q)) : List (Sub Q) := (Go.Sort.pdq (Go.Proofs.ltOf fun a b : Sub Q => cf a.1 b.1) l.toArray 0 l.length (Go.Lib.bitLen l.length) true true).toList
theorem bp8 {Q : Val → Prop} [Inhabited (Sub Q)] {cf : Val → Val → Int} (hO : Go.Sort.SWO (Go.Proofs.ltOf fun a b : Sub Q => cf a.1 b.1)) (l : List (Sub Q)) : ((bp7 cf l).map (·.1)).Perm (l.map (·.1)) ∧ ((bp7 cf l).map (·.1)).Pairwise (fun a b => cf b a < 0 → False) := by
  have h := Go.Sort.pdq_sorts (Go.Proofs.ltOf fun a b : Sub Q => cf a.1 b.1) hO l.toArray 0 l.length (Go.Lib.bitLen l.length) true true (Nat.zero_le _) (by simp) (Or.inl rfl)
  obtain ⟨⟨h1, _, h3⟩, h4⟩ := h
  unfold bp7
  generalize Go.Sort.pdq (Go.Proofs.ltOf fun a b : Sub Q => cf a.1 b.1) l.toArray 0 l.length (Go.Lib.bitLen l.length) true true = d at h1 h3 h4
  replace h1 : d.size = l.length := by simpa using h1
  refine ⟨List.Perm.map _ ?_, List.pairwise_map.2 ?_⟩
  · have a1 : (d.extract 0 l.length).toList = d.toList := by rw [← h1]; simp
    have a2 : (l.toArray.extract 0 l.length).toList = l := by simp
    rw [a1, a2] at h3; exact h3
  · rw [List.pairwise_iff_getElem]
    intro i j hi hj hij hlt
    have := h4 i j (Nat.zero_le _) hij (by rw [← h1]; simpa using hj)
    simp only [Array.length_toList] at hi hj
    rw [getElem!_pos d i hi, getElem!_pos d j hj] at this
    simp only [Go.Proofs.ltOf, decide_eq_false_iff_not] at this
    exact this (by simpa using hlt)
theorem c46 {Q : Val → Prop} : ∀ {l : List Val}, (∀ v ∈ l, Q v) → ∃ d : List (Sub Q), d.map (·.1) = l
 | [], _ => ⟨[], rfl⟩
 | v :: l, h => by
   obtain ⟨d, hd⟩ := c46 (l := l) fun u hu => h u (List.mem_cons_of_mem _ hu)
   exact ⟨⟨v, h v (List.mem_cons_self ..)⟩ :: d, by rw [List.map_cons, hd]⟩
theorem bI3 (L : Go.Proofs.SlLaysF0.n6 P ρ) {sig : List CT} {e : TypeId} {x : SX} {g : FuncId} {cb : Array Value} {Q : Val → Prop} [Inhabited (Sub Q)] {cf : Val → Val → Int} {blk : Nat} (aE : ∀ w, (isAgg (ρ.t 24)).run P w = .ok true w) (zE : ∀ w, (Go.sizeOf (ρ.t 24)).run P w = .ok sig.length w)
 (hO : Go.Sort.SWO (Go.Proofs.ltOf fun a b : Sub Q => cf a.1 b.1)) (eg : ∀ args w, (callFunc g args).run P w = .ok (.enter g args) w) (hg : bg8 P g cb sig Q cf blk w) (hQ : ∀ v ∈ dL ω x, Q v) {y : SX}
 (hy : ∀ l : List Val, l.Perm (dL ω x) → l.Pairwise (fun a b => cf b a < 0 → False) → dL ω y = l) {b : Nat}
 (r : HR β ω K w0 h w) (hh : h.get b = some (.arr e sig x)) (hwm : h.wm ≤ b) {len : SX} (hlen : dI ω len = (dL ω x).length) (hsz : (dL ω x).length ≤ 1000000) (hbl : blk < w.heap.size) (hsep : ∀ L0, β b = some L0 → L0.blk ≠ blk) {u : Value} (hu : VR β ω (.ous b len sig.length) u) :
 Calls P (ρ.f 6) #[u, .func (.func g) #[] cb] w fun e' w' => e' = .returned (.tuple #[]) ∧ HR β ω K w0 (h.put b (some (.arr e sig y))) w' ∧ St h β (h.put b (some (.arr e sig y))) β := by
 obtain ⟨d, hd⟩ := c46 hQ
 have hdl : (dL ω x).length = d.length := by rw [← hd, List.length_map]
 simp only [VR] at hu
 rcases hu with ⟨L0, cap, hL, hext, hv, hcap⟩ | ⟨hv, hz⟩
 · subst hv
   rw [hlen, Int.toNat_natCast]
   obtain ⟨C, e', lo, hi, q1, q0, q2, q3, q4, q5⟩ := r.blk b _ L0 hh hL
   have hblk := r.lt b L0 hL
   have hfl := k9 sig (dL ω x)
   have hHold : Go.Sort.HoldsK (fun a : Sub Q => N0 sig a.1) sig.length w L0.blk L0.off d.toArray := by
    intro j hj
    rw [ar9, hd] at hj ⊢
    rw [List.size_toArray] at hj
    have hq := List.getElem?_eq_getElem hj
    refine ⟨?_, I5 q1 ?_⟩
    · rw [N1 q1, q4 _ _ hq, aK4 hq]; rfl
    · have := q5 j (by omega)
      exact this
   have hcmp : Go.Proofs.CmpLays P g cb (fun a : Sub Q => N0 sig a.1) sig.length (fun a b : Sub Q => cf a.1 b.1) L0.blk L0.off d.toArray.size w := fun m os dk _ a c => by
     refine hg a.1 c.1 a.2 c.2 _ ?_ ?_
     · simp only [Go.Proofs.sortWorldK, Go.Sort.grow, Array.size_append, Go.Sort.putRowK, Go.Sort.size_putRow]
       exact Nat.lt_of_lt_of_le hbl (Nat.le_add_right _ _)
     · show (Go.Sort.grow _ _).heap[blk]? = _
       rw [Go.Sort.heap_grow_old _ _ (by simp only [Go.Sort.putRowK, Go.Sort.size_putRow]; exact hbl)]
       exact af5 (Ne.symm (hsep L0 hL))
   have hcon := Go.Proofs.AnyQ.slices_SortFunc_eq L sig.length aE zE (fun a : Sub Q => N0 sig a.1) (fun a => m0 sig a.1) (fun a v hv => by
    have := ao1 sig [a.1] v (by simpa [j9] using hv)
    exact this) (fun a b : Sub Q => cf a.1 b.1) hO g cb L0.blk L0.off cap d.toArray w eg hcmp hHold hblk (by rw [List.size_toArray]; omega)
   have hsort : Go.Sort.pdq (Go.Proofs.ltOf fun a b : Sub Q => cf a.1 b.1) d.toArray 0 d.length (Go.Lib.bitLen d.length) true true = (bp7 cf d).toArray := by unfold bp7; simp
   rw [List.size_toArray, hsort] at hcon
   obtain ⟨p1, p2⟩ := bp8 hO d
   rw [hd] at p1
   have hyv := hy _ p1 p2
   rw [hdl]
   refine hcon.mono ?_
   rintro e2 w' ⟨rfl, n, os, rfl⟩
   refine ⟨rfl, ?_⟩
   have hyl : (dL ω y).length = (dL ω x).length := by rw [hyv]; exact p1.length_eq
   obtain ⟨r1, s1⟩ := HR.upd (w' := Go.Sort.putRowK (fun a : Sub Q => N0 sig a.1) sig.length w L0.blk L0.off (bp7 cf d).toArray) r b _ (.arr e sig y) L0 hh hL hwm (fun i hi => af5 hi) (Go.Sort.size_putRow _ _ _ _ _) rfl rfl rfl rfl (by
    refine ⟨_, e', lo, hi, bp6 q1, q0, ?_, ?_, ?_, q5⟩
    · simp only [Go.Sort.putCells, Array.size_mapIdx]; exact q2
    · rw [hyl]; exact q3
    · intro i v hv
      rw [ar9, ← hyv]
      have hil : i < (j9 sig (dL ω y)).length := (List.getElem?_eq_some_iff.1 hv).1
      have hfy := k9 sig (dL ω y)
      rw [hyl] at hfy
      have hC : L0.off + i < C.size := by omega
      simp only [Go.Sort.putCells, Array.getElem?_mapIdx]
      rw [Array.getElem?_eq_getElem hC, Option.map_some, if_pos ⟨by omega, by rw [List.size_toArray]; omega⟩, Nat.add_sub_cancel_left, aK4 hv]
      rfl)
   refine ⟨HR.later r1 (fun i hi => ?_) ?_ rfl rfl rfl ?_, s1⟩
   · show (Go.Sort.grow _ _).heap[i]? = _
     rw [Go.Sort.heap_grow_old _ _ (by simpa [Go.Sort.putRowK] using hi)]
     rfl
   · simp [Go.Proofs.sortWorldK, Go.Sort.putRowK]
   · show w.drawn ≤ w.drawn + n; omega
 · subst hv
   have hx : dL ω x = [] := by
    rw [hlen] at hz
    exact List.length_eq_zero_iff.1 (by omega)
   refine (Go.Proofs.AnyF.slices_SortFunc_none L none 0 _ w).mono ?_
   rintro e2 w' ⟨rfl, rfl⟩
   refine ⟨rfl, ?_⟩
   have hyx : dL ω y = dL ω x := by rw [hx]; exact hy [] (by rw [hx]) List.Pairwise.nil
   have hb65 := Heap.get_lim h b _ hh
   refine ⟨HR.retell (y := .arr e sig y) r hh (.inl hwm) (fun L hL hbr => ?_) (Heap.next_put _ _ _) (Heap.wm_put _ _ _) (fun z => by rw [Heap.get_put, if_pos hb65]), ⟨by rw [Heap.next_put]; exact Nat.le_refl _, fun _ _ => rfl, fun b' hb' hn => ?_, Heap.wm_put _ _ _⟩⟩
   · obtain ⟨C, e', lo, hi, q1, q0, q2, q3, q4, q5⟩ := hbr
     exact ⟨C, e', lo, hi, q1, q0, q2, by rw [hyx]; exact q3, by rw [hyx]; exact q4, q5⟩
   · by_cases e1 : b' = b
     · subst e1; exact .inr (.inr ⟨_, _, _, hh⟩)
     · left; rw [Heap.get_put, if_neg e1]
def aD5 (g : FuncId) (e : TypeId) (sig : List CT) (ec : TypeId) (cs : List CT) (need : SX) (id : Nat) : FC :=
 ⟨[.ous 1 (.op .llen [.va cs.length]) sig.length, .func (.func g) [] [.ptr 0 0]], [.cells ec 0 (ah8 cs 0), .arr e sig (.va cs.length)], 1, .op .and [.op (.cmp .leq) [.op .llen [.va cs.length], .ci 1000000], need], .tup [], [some (.arr e sig (.va 1000))], [.app id ((List.range (cs.length + 1)).map .va)]⟩
theorem bY2 {Ω : Opq → Prop} (L : Go.Proofs.SlLaysF0.n6 E.P ρ) {f g : FuncId} (hf : ρ.f 6 = f) {sig cs : List CT} {e ec : TypeId} {id : Nat} {need : SX} {Q : Val → Prop} [Inhabited (Sub Q)] {cf : Opq → Val → Val → Int} (aE : ∀ w, (isAgg (ρ.t 24)).run E.P w = .ok true w) (zE : ∀ w, (Go.sizeOf (ρ.t 24)).run E.P w = .ok sig.length w)
 (hO : ∀ ω, Go.Sort.SWO (Go.Proofs.ltOf fun a b : Sub Q => cf ω a.1 b.1)) (eg : ∀ args w, (callFunc g args).run E.P w = .ok (.enter g args) w)
 (hg : ∀ ω, Ω ω → ∀ β L w, L.blk < w.heap.size → BR β ω L w.heap[L.blk]? (.cells ec 0 (ah8 cs 0)) → bg8 E.P g #[.pointer (some ⟨L.blk, L.off, none⟩)] sig Q (cf ω) L.blk w)
 (hQ : ∀ ω, Ω ω → dB ω need = true → ∀ v ∈ dL ω (.va cs.length), Q v)
 (hy : ∀ ω, Ω ω → dB ω need = true → ∀ l : List Val, l.Perm (dL ω (.va cs.length)) → l.Pairwise (fun a b => cf ω b a < 0 → False) → dL ω (.app id ((List.range (cs.length + 1)).map .va)) = l)
 (hk : kFC (aD5 g e sig ec cs need id) (.tup []) ((aD5 g e sig ec cs need id).heap.put 1 (some (.arr e sig (.app id ((List.range (cs.length + 1)).map .va))))) [] = .ret 0 [.app id ((List.range (cs.length + 1)).map .va)]) : bH5 E Ω f (aD5 g e sig ec cs need id) := by
 intro ω hω hn K w0 β w us r ra
 obtain ⟨n1, n2⟩ := g9 (show (dB ω (.op (.cmp .leq) [.op .llen [.va cs.length], .ci 1000000]) && dB ω need) = true from hn)
 have n1 : ((dL ω (.va cs.length)).length : Int) ≤ 1000000 := of_decide_eq_true n1
 obtain ⟨u, ur, rfl, hu, v2, ur2, e2, hv2, hnil⟩ := ra
 have hnil : ur2 = [] := hnil
 subst hnil
 subst e2
 obtain ⟨m, a, b, hv2, q1, q2⟩ := hv2
 have ha : a = #[] := Array.toList_inj.1 q1
 obtain ⟨pv, pr, e3, ⟨Lc, hLc, hpv⟩, hpr⟩ := q2
 have hpr : pr = [] := hpr
 subst hpr
 have hb : b = #[.pointer (some ⟨Lc.blk, Lc.off, none⟩)] := Array.toList_inj.1 (by rw [e3, hpv]; rfl)
 subst ha hb hv2
 have F3 : (aD5 g e sig ec cs need id).heap.get 1 = some (.arr e sig (.va cs.length)) := rfl
 have hget0 : (aD5 g e sig ec cs need id).heap.get 0 = some (.cells ec 0 (ah8 cs 0)) := rfl
 have := bI3 L aE zE (hO ω) eg (hg ω hω β Lc w (r.lt 0 Lc hLc) (r.blk 0 _ Lc hget0 hLc)) (hQ ω hω n2) (hy ω hω n2) (b := 1) (len := .op .llen [.va cs.length]) r F3 (Nat.le_refl _) rfl (by omega) (r.lt 0 Lc hLc)
   (fun L0 hL0 => r.sep 1 0 _ _ L0 Lc F3 hget0 hL0 hLc (by decide) (.inl (Nat.le_refl _))) hu
 rw [hf] at this
 refine this.mono ?_
 rintro e' w' ⟨rfl, h1, h2⟩
 exact ⟨_, β, .tup [], _, rfl, ⟨[], W6, by rw [hk]; rfl⟩, ⟨_, rfl, rfl⟩, h1, h2⟩
theorem aD6 {ω ω' : Opq} {β β' : Bij} : ∀ {s : List CT} {i i' : Nat} {vs : List Value}, (∀ t, t < s.length → ω'.w (i' + t) = ω.w (i + t)) → VRs β ω (ah8 s i) vs → VRs β' ω' (ah8 s i') vs
 | [], _, _, _, _, hv => hv
 | c :: s, i, i', vs, h, hv => by
   obtain ⟨v, vr, rfl, p, q⟩ := hv
   have h0 := h 0 (by simp)
   simp only [Nat.add_zero] at h0
   refine .cons ?_ (aD6 (s := s) (i := i + 1) (i' := i' + 1) (fun t ht => by
    have := h (t + 1) (by simp; omega)
    rw [show i + 1 + t = i + (t + 1) by omega, show i' + 1 + t = i' + (t + 1) by omega]; exact this) q)
   cases c
   · have p : v = .int _ (ω.w i).toI := p
     rw [p, ← h0]; rfl
   · have p : v = .string ⟨(ω.w i).toS.toArray⟩ := p
     rw [p, ← h0]; rfl
   · have p : v = .bool (ω.w i).toB := p
     rw [p, ← h0]; rfl
theorem bg9 : ∀ (s : List CT) (i : Nat), (ah8 s i).all AV.oneA = true
 | [], _ => rfl
 | c :: s, i => by
   have := bg9 s (i + 1)
   unfold ah8
   rw [List.all_cons, this]
   cases c <;> rfl
theorem aK5 : ∀ (s : List CT) (i : Nat), (ah8 s i).length = s.length
 | [], _ => rfl
 | c :: s, i => by simp [ah8, aK5 s (i + 1)]
theorem ce7 {Ω : Opq → Prop} (hup : ∀ ω v0 l, Ω ω → Ω (ω.upd v0 l)) {ω : Opq} (hω : Ω ω) {g : FuncId} {nv : Nat} {c : FC} (hy : C5 E Ω ⟨g, nv, c⟩) (ho : bG2 c nv = true) {sig cs : List CT} {ec : TypeId} {x : SX} {nd : SX} {cf : Val → Val → Int} {Q : Val → Prop}
 (hargs : c.args = [.agg (ah8 sig 0), .agg (ah8 sig sig.length), .ptr 0 0]) (hblks : c.blks = [.cells ec 0 (ah8 cs (sig.length + sig.length))]) (hmt : c.mt = 1)
 (he : ad0 (K1 c nv c.args c.heap) = some (nd, .oint .i64 x))
 (hx : ∀ ω', Ω ω' → ∀ a b : Val, Q a → Q b → (∀ t, t < sig.length → ω'.w t = a.toL.getD t default) → (∀ t, t < sig.length → ω'.w (sig.length + t) = b.toL.getD t default) → (∀ t, t < cs.length → ω'.w (sig.length + sig.length + t) = ω.w t) → dB ω' nd = true ∧ dI ω' x = cf a b)
 {β : Bij} {L : Loc} {w : World} (hbl : L.blk < w.heap.size) (hbr : BR β ω L w.heap[L.blk]? (.cells ec 0 (ah8 cs 0))) : bg8 E.P g #[.pointer (some ⟨L.blk, L.off, none⟩)] sig Q cf L.blk w := by
 intro a b qa qb w1 hw1 hsame
 obtain ⟨ω1, hω1⟩ : ∃ ω1 : Opq, ω1 = ω.upd 0 ((List.range sig.length).map (fun t => a.toL.getD t default) ++ ((List.range sig.length).map (fun t => b.toL.getD t default) ++ (List.range cs.length).map (fun t => ω.w t))) := ⟨_, rfl⟩
 have hΩ1 : Ω ω1 := by rw [hω1]; exact hup _ _ _ hω
 have hat : ∀ t, ω1.w t = ((List.range sig.length).map (fun t => a.toL.getD t default) ++ ((List.range sig.length).map (fun t => b.toL.getD t default) ++ (List.range cs.length).map (fun t => ω.w t))).getD t (.vb false) := fun t => by
  have q : ∀ (v0 : Nat) (l : List Val), v0 ≤ t → (ω.upd v0 l).w t = l.getD (t - v0) (.vb false) := fun v0 l h => if_pos h
  rw [hω1, q 0 _ (Nat.zero_le t), Nat.sub_zero]
 have ha : ∀ t, t < sig.length → ω1.w t = a.toL.getD t default := fun t ht => by
  rw [hat, List.getD_eq_getElem?_getD, List.getElem?_append_left (by simpa using ht)]
  simp [ht]
 have hb : ∀ t, t < sig.length → ω1.w (sig.length + t) = b.toL.getD t default := fun t ht => by
  rw [hat, List.getD_eq_getElem?_getD, List.getElem?_append_right (by simp), List.getElem?_append_left (by simpa using ht)]
  simp [ht]
 have hc : ∀ t, t < cs.length → ω1.w (sig.length + sig.length + t) = ω.w t := fun t ht => by
  rw [hat, List.getD_eq_getElem?_getD, List.getElem?_append_right (by simp; omega), List.getElem?_append_right (by simp; omega)]
  simp only [List.length_map, List.length_range]
  rw [show sig.length + sig.length + t - sig.length - sig.length = t by omega]
  simp [ht]
 obtain ⟨hnd, hxe⟩ := hx ω1 hΩ1 a b qa qb ha hb hc
 obtain ⟨h', hh⟩ := aD4 he hnd
 obtain ⟨hnx, hwm, F3⟩ := c.heap_ok (b57 ho).lt
 rw [hblks] at F3 hnx
 have hbr1 : BR (fun n => if n = 0 then some L else none) ω1 L w1.heap[L.blk]? (.cells ec 0 (ah8 cs (sig.length + sig.length))) := by
   rw [hsame]
   obtain ⟨C, lo, hi, vs, h1, h2, h3, h4, h5, h6, h7, h8⟩ := hbr
   refine ⟨C, lo, hi, vs, h1, h2, by rw [aK5] at h3 ⊢; exact h3, bg9 _ _, aD6 (fun t ht => by rw [hc t ht, Nat.zero_add]) h5, fun i hi => h6 i (by rw [aK5] at hi ⊢; exact hi), h7, fun hfx => h8 (by rw [hω1] at hfx; exact hfx)⟩
 have hr : HR (fun n => if n = 0 then some L else none) ω1 (· < w1.heap.size) w1 c.heap w1 := by
   have hL : ∀ n M, (if n = 0 then some L else none) = some M → n = 0 ∧ M = L := fun n M hM => by
    by_cases h0 : n = 0
    · rw [if_pos h0] at hM; exact ⟨h0, (Option.some.inj hM).symm⟩
    · rw [if_neg h0] at hM; cases hM
   refine ⟨fun n y M hg hM => ?_, fun n n' y y' M M' _ _ h1 h2 hne _ => ?_, fun n hn => ?_, fun n hn => ?_, fun n M hM => ?_, fun i hi => hi, fun i _ => rfl, fun n y M hg hw hM => ?_, Nat.le_refl _, rfl, rfl, rfl, Nat.le_refl _⟩
   · obtain ⟨rfl, rfl⟩ := hL _ _ hM
     rw [F3] at hg
     obtain rfl : Blk.cells ec 0 (ah8 cs (sig.length + sig.length)) = y := by simpa using hg
     exact hbr1
   · exact absurd ((hL _ _ h1).1.trans (hL _ _ h2).1.symm) hne
   · have hn : 1 ≤ n := by rw [hnx] at hn; exact hn
     show (if n = 0 then some L else none) = none
     rw [if_neg (by omega)]
   · have hn : 1 ≤ n := by rw [hnx] at hn; exact hn
     rw [F3, List.getElem?_eq_none (by simpa using hn)]
   · rw [(hL _ _ hM).2]; exact hw1
   · rw [hwm, hmt] at hw
     have := (hL _ _ hM).1
     omega
 have hp := hy ω1 hΩ1 _ _ _ _ hh (· < w1.heap.size) w1 _ w1 [.agg (N0 sig a).toArray, .agg (N0 sig b).toArray, .pointer (some ⟨L.blk, L.off, none⟩)] hr
  (by
   rw [hargs]
   exact .cons ⟨_, rfl, by rw [I3]; exact b59 sig 0 0 (fun t ht => by rw [Nat.zero_add]; exact ha t ht)⟩ (.cons ⟨_, rfl, by rw [I3]; exact b59 sig sig.length 0 (fun t ht => by rw [Nat.zero_add]; exact hb t ht)⟩ (.one ⟨L, rfl, rfl⟩)))
 refine hp.mono ?_
 rintro e2 w' ⟨u, β', rfl, hu, hr', _⟩
 have hu : u = .int .i64 (dI ω1 x) := hu
 rw [hxe] at hu
 exact ⟨by rw [hu], bY1 (fun i hi => hr'.keep i hi) hr'.size hr'.os hr'.tape hr'.out hr'.dr⟩
end Go.Ev
