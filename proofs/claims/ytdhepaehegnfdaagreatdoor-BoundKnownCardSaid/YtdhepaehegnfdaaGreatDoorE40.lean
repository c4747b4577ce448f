import Derived.Test.YtdhepaehegnfdaaGreatDoorE39
set_option linter.unusedVariables false
set_option linter.unusedSimpArgs false
namespace Go.Ev
open Go
variable {E E0 : Env} {ω : Opq} {β : Bij} {K : Nat → Prop} {w0 w : World} {h h2 : Heap}
def bH3 (E0 : Env) (Ω : Opq → Prop) (n : Nat) (f : FuncId) (c : FC) : Prop := ∀ ω, Ω ω → dB ω c.need = true → ∃ args, (∀ (β : Bij) us, VRs β ω c.args us → VRs β ω args us) ∧ j3 (FC.run E0 n f c args) ω = some (0, k5 ω c.outs)
def bH4 (E : Env) (Ω : Opq → Prop) (n : Nat) (f : FuncId) (c : FC) : Prop := ∀ ω, Ω ω → dB ω c.need = true → ∃ E0 : Env, E0.P = E.P ∧ bE6 E0 ω n ∧ ∃ args, (∀ (β : Bij) us, VRs β ω c.args us → VRs β ω args us) ∧ j3 (FC.run E0 n f c args) ω = some (0, k5 ω c.outs)
theorem bX9 {c : FC} {b : Binding} {v : AV} {h' : Heap} (e : b52 c b h = .val v h' ∨ ∃ x, b52 c b h = .need x v h' ∧ dB ω x = true) :
 dB ω b.nd = true ∧ dB ω (P4 b.es c.need) = true ∧ v = ax8 (a29 b.src h.next) (Q6 (aJ8 b.es c.outs) c.out) ∧ h' = E6 (a29 b.src h.next) (aJ8 b.es c.outs) c.blks.length c.post c.mt h := by
 unfold b52 bW7 at e
 rcases e with e | ⟨x, e, hd⟩
 · split at e
   · rename_i hn
     simp only [Res.val.injEq] at e
     have : dB ω (ax7 b.nd (P4 b.es c.need)) = true := by rw [hn]; rfl
     obtain ⟨d1, d2⟩ := aD3 this
     exact ⟨d1, d2, e.1.symm, e.2.symm⟩
   · cases e
 · split at e
   · cases e
   · simp only [Res.need.injEq] at e
     obtain ⟨rfl, e1, e2⟩ := e
     obtain ⟨d1, d2⟩ := aD3 hd
     exact ⟨d1, d2, e1.symm, e2.symm⟩
def bH5 (E : Env) (Ω : Opq → Prop) (f : FuncId) (c : FC) : Prop := ∀ ω, Ω ω → dB ω c.need = true → ∀ (K : Nat → Prop) (w0 : World) (β : Bij) (w : World) (us : List Value), HR β ω K w0 c.heap w → VRs β ω c.args us →
 Calls E.P f us.toArray w (fun e w' => ∃ u β' v h', e = .returned u ∧ TPT ω (0, k5 ω c.outs) (kFC c v h') ∧ VR β' ω v u ∧ HR β' ω K w0 h' w' ∧ St c.heap β h' β')
theorem bH6 {Ω : Opq → Prop} {f : FuncId} {n nv : Nat} {c : FC} (hc : bG2 c nv = true) (hm : bH4 E Ω n f c) : bH5 E Ω f c := by
 intro ω' hω hn K w0 β w us r ra
 obtain ⟨E0, hP, hb, args', hvar, hrun⟩ := hm _ hω hn
 exact hP ▸ hb RPT aG2 (TPT ω' (0, k5 ω' c.outs)) (ai3 ω' _) f args' c.heap (kFC c) ⟨[], W6, hrun⟩ _ w0 _ w us r (hvar _ _ ra)
set_option maxHeartbeats 1000000 in
theorem bH7 {Ω : Opq → Prop} (hΩ : ∀ ω v0 l, Ω ω → Ω (ω.upd v0 l)) {f : FuncId} {nv : Nat} {c : FC} (hc : bG2 c nv = true) (hm : bH5 E Ω f c) (hω : Ω ω)
 {args : List AV} {v : AV} {h' : Heap} (e : ar0 c nv args h = .val v h' ∨ ∃ x, ar0 c nv args h = .need x v h' ∧ dB ω x = true) : P3 E ω f args h v h' := by
 intro K w0 β w us r ra
 have fo := b57 hc
 have : ∃ b, b51 c nv args h = some b ∧ (b52 c b h = .val v h' ∨ ∃ x, b52 c b h = .need x v h' ∧ dB ω x = true) := by
  unfold ar0 at e
  cases hbd : b51 c nv args h with
  | none => rw [hbd] at e; rcases e with e | ⟨x, e, _⟩ <;> cases e
  | some b => rw [hbd] at e; exact ⟨b, rfl, e⟩
 obtain ⟨b, hbd, e⟩ := this
 have bo := bX6 hbd
 obtain ⟨hnd, hneed, rfl, rfl⟩ := bX9 e
 clear e
 obtain ⟨hargs, hhr⟩ := bX7 r ra fo bo hnd
 have hΩ' : Ω (ω.upd 0 (k5 ω b.es)) := hΩ _ _ _ hω
 have hneed' : dB (ω.upd 0 (k5 ω b.es)) c.need = true := by
  have := W8 (ω := ω) (es := b.es) c.need (by rw [bo.len]; exact fo.need)
  show (den _ c.need).toB = true
  rw [← this]; exact hneed
 have hm := hm _ hΩ' hneed'
 obtain ⟨hn, hwm, F3⟩ := c.heap_ok fo.lt
 generalize hω' : ω.upd 0 (k5 ω b.es) = ω' at *
 have hag : Agr 0 ω ω' := by rw [← hω']; exact aI6 _ _ _
 refine Calls.mono (hm _ w _ w us hhr hargs) ?_
 rintro _ w' ⟨u, β1, v1, h1, rfl, hk, hv1, hr1, hs1⟩
 unfold kFC at hk
 cases hsh : (B8 c.out v1 && Nat.ble (K8 v1).length 256) with
 | false => rw [hsh] at hk; obtain ⟨_, _, hk⟩ := hk; simp [j3] at hk
 | true =>
 rw [hsh] at hk
 simp only [cond_true] at hk
 obtain ⟨hsh, hl256⟩ := g9 hsh
 rw [j2] at hl256
 unfold cG0 at hk
 obtain ⟨hdn, pcx, hpcx, hk⟩ := (ai3 ω' (0, k5 ω' c.outs)).need _ _ hk
 obtain ⟨fu, hfu, hback⟩ := bG5 v1 u hv1
 have hfu2 := aV3 (h := h1) hdn hfu
 generalize hxs : (aD2 h1 (K8 v1)).2 = xs at hk hfu2
 have hxl : xs.length = (K8 v1).length := by rw [← hfu2.length, hfu.length]
 unfold cF9 at hk
 split at hk
 · rename_i p hcv
   have hf0 := cr3 (β := β1) hfu2 (by rw [hxl]; exact hl256)
   obtain ⟨β2, cv⟩ := aJ2 (a' := p.1) (h' := p.2) hcv hf0 (hr1.upto (n := Nat.add h1.next (aU9 c.post c.mt c.blks.length h1.next (K8 c.out) 0).length) (Nat.le_add_right _ _))
   generalize hbase : h1.next = base at *
   have hβ2 : ∀ x, x < base → β2 x = β1 x := fun x hx => cv.bij x (by
    rintro ⟨o, ho, rfl⟩
    have := X0 ho
    omega)
   have hbm : c.blks.length ≤ base := by rw [← hbase, ← hn]; exact hs1.le
   have hβ1 : ∀ i, i < c.blks.length → β1 i = bnd β ω b.src c.blks i := fun i hi => hs1.ext i (by rw [hn]; exact hi)
   have hw : ∀ i x, b.src[i]? = some (.whole x) → β2 i = β x := by
    intro i x hx
    have hi : i < c.blks.length := by rw [← bo.slen]; exact (List.getElem?_eq_some_iff.1 hx).1
    rw [hβ2 i (by omega), hβ1 i hi]
    unfold bnd; rw [hx]
   have hwm2 : p.2.wm = c.mt := by rw [cv.wm, Heap.wm_upto, hs1.wm, hwm]
   unfold cF8 at hk
   split at hk
   · rename_i es hes
     split at hk
     · rename_i fs hfs
       simp only [j3, Option.some.injEq, Prod.mk.injEq, true_and, bH0 hpcx] at hk
       have hq : ∀ (j : Nat) (x : SX), (es ++ fs)[j]? = some x → den ω (aJ8 b.es c.outs j) = den ω' x := by
        intro j x hj
        have h3 : (k5 ω' (es ++ fs))[j]? = some (den ω' x) := by rw [a73, List.getElem?_map, hj]; rfl
        rw [hk, a73, List.getElem?_map] at h3
        cases ho : c.outs[j]? with
        | none => rw [ho] at h3; cases h3
        | some o =>
          rw [ho] at h3
          simp only [Option.map_some, Option.some.injEq] at h3
          unfold aJ8
          rw [List.getD_eq_getElem?_getD, ho, Option.getD_some, ← h3, ← hω']
          exact W8 o (by
           rw [bo.len]
           have := fo.outs
           have hmem := List.mem_of_getElem? ho
           clear h3 hj hk
           revert this hmem
           induction c.outs with
           | nil => intro _ hh; cases hh
           | cons y ys ih =>
             intro h1 h2
             simp only [M8, Bool.and_eq_true] at h1
             rcases List.mem_cons.1 h2 with rfl | h2
             · exact h1.1
             · exact ih h1.2 h2)
       have hslots := bg1 (P := fun j x => den ω (aJ8 b.es c.outs j) = den ω' x) hes (fun j x hj => hq (0 + j) x (by
         have hlt := (List.getElem?_eq_some_iff.1 hj).1
         rw [Nat.zero_add, List.getElem?_append_left hlt]; exact hj))
       have hblks := bg2 (P := fun j x => den ω (aJ8 b.es c.outs j) = den ω' x) hfs (fun j x hj => hq (es.length + j) x (by
         rw [List.getElem?_append_right (Nat.le_add_right _ _), Nat.add_sub_cancel_left]; exact hj))
       obtain ⟨hpl, hpost⟩ := ar6 bo.post
       rw [bo.slen] at hpl hpost
       have hout := List.all_eq_true.1 bo.out
       generalize hQ : aJ8 b.es c.outs = Q at *
       generalize hm0 : c.blks.length = m at *
       have hlay := ac8 (Q := Q) (ρ := a29 b.src h.next) (m := m) c.post c.mt h (fun j x hj hmj => (hpost j x hj).2 hmj) (fun j hj hmj => by
        have : ∃ s, b.src[c.mt + j]? = some s := ⟨_, List.getElem?_eq_getElem (by rw [bo.slen, hm0]; exact hmj)⟩
        obtain ⟨s, hs⟩ := this
        obtain ⟨y, rfl, _, hy, _⟩ := ai5 r ra bo.mutb _ s hs (by omega)
        rw [ar4 hs]; exact hy)
       have hmut : ∀ i, c.mt ≤ i → i < m → ∃ y, b.src[i]? = some (.whole y) ∧ h.wm ≤ y ∧ y < h.next ∧ (β y ≠ none ∨ c.post[i - c.mt]? = some none ∨ ∃ e sig l, h.get y = some (.arr e sig l)) ∧ a29 b.src h.next i = y := by
        intro i h1 h2
        have : ∃ s, b.src[i]? = some s := ⟨_, List.getElem?_eq_getElem (by rw [bo.slen, hm0]; exact h2)⟩
        obtain ⟨s, hs⟩ := this
        obtain ⟨y, rfl, h3, h4, h5⟩ := ai5 r ra bo.mutb i s hs (by omega)
        rw [Nat.zero_add] at h5
        exact ⟨y, hs, h3, h4, h5, ar4 hs⟩
       have hmax : Nat.max c.mt m = m := Nat.max_eq_right (by rw [← hm0]; exact fo.mt)
       have hnext2 : (E6 (a29 b.src h.next) Q m c.post c.mt h).next = h.next + (c.mt + c.post.length - m) := by rw [hlay.next, hmax]
       let βF : Bij := fun x => if x < h.next then β x else if x < h.next + (c.mt + c.post.length - m) then β2 (base + (x - h.next)) else none
       have hlow : ∀ x, x < h.next → βF x = β x := fun x hx => if_pos hx
       have hhigh : ∀ x, h.next ≤ x → x < h.next + (c.mt + c.post.length - m) → βF x = β2 (base + (x - h.next)) := fun x h1 h2 => by
        show (if x < h.next then β x else _) = _
        rw [if_neg (by omega), if_pos h2]
       have hle : Le β βF := by
        intro x L hx
        rcases Nat.lt_or_ge x h.next with hh | hh
        · rw [hlow x hh]; exact hx
        · rw [r.fresh x hh] at hx; cases hx
       have hFw : ∀ i x, b.src[i]? = some (.whole x) → βF x = β2 i := by
        intro i x hx
        rw [hw i x hx]
        have hi : i < m := by rw [← hm0, ← bo.slen]; exact (List.getElem?_eq_some_iff.1 hx).1
        have : x < h.next := by
         obtain ⟨_, hB⟩ := ar3 bo.blks hnd
         have hp : ∃ y, c.blks[i]? = some y := ⟨_, List.getElem?_eq_getElem (by rw [hm0]; exact hi)⟩
         obtain ⟨y, hy⟩ := hp
         obtain ⟨nd, g1, _⟩ := hB i y _ hy hx
         rcases Nat.lt_or_ge x h.next with hh | hh
         · exact hh
         · simp only [ckB] at g1
           rw [r.fget x hh] at g1
           split at g1
           · rename_i hg; cases hg
           · rename_i hg; cases hg
           · cases g1
        exact hlow x this
       have hFblk : ∀ j x y L, c.post[j]? = some x → ag7 (a29 b.src h.next) (U3 Q x) = some y → β2 (bif Nat.blt (c.mt + j) m then c.mt + j else base + (c.mt + j - m)) = some L →
        (∃ z, p.2.get (bif Nat.blt (c.mt + j) m then c.mt + j else base + (c.mt + j - m)) = some z ∧ z.isArr = y.isArr) ∧ BR βF ω L w'.heap[L.blk]? y := by
        intro j x y L hj hy hL
        obtain ⟨n', es', g1, g2⟩ := hblks j x hj
        cases x with
        | none => cases hy
        | some q =>
          simp only [aG0] at g1
          split at g1
          · rename_i z hz
            have hkind : q.isArr = z.isArr := aU4 g1
            have hkind2 : q.isArr = y.isArr := by
             cases q <;> simp only [U3, ag7, Option.some.injEq, reduceCtorEq] at hy <;> subst hy <;> rfl
            have hz' : p.2.get (bif Nat.blt (c.mt + j) m then c.mt + j else base + (c.mt + j - m)) = some z := hz
            refine ⟨⟨z, hz', hkind.symm.trans hkind2⟩, ?_⟩
            have hcl : clB b.src c.mt c.post (some q) = true := by
             rcases Nat.lt_or_ge (c.mt + j) m with hh | hh
             · exact (hpost j _ hj).1 hh
             · have := (hpost j _ hj).2 hh
               unfold bo9 at this
               split at this
               · rename_i heq
                 simp only [Option.some.injEq] at heq
                 subst heq; exact this
               · cases this
            exact bG9 (N := h.next) hag hcl g1 g2 (cv.hr.blk _ z L hz' hL) hFw hy
          · cases g1
       refine ⟨u, βF, rfl, ?_, ?_, ?_⟩
       ·
        have hF1 : ∀ l, (fun x => ax8 (a29 b.src h.next) (Q6 Q x)) (.agg l) = .agg (l.map fun x => ax8 (a29 b.src h.next) (Q6 Q x)) := fun l => by
         simp only [Q6, ax8, ac9, ar7, List.map_map]; rfl
        have hF2 : ∀ l, (fun x => ax8 (a29 b.src h.next) (Q6 Q x)) (.tup l) = .tup (l.map fun x => ax8 (a29 b.src h.next) (Q6 Q x)) := fun l => by
         simp only [Q6, ax8, ac9, ar7, List.map_map]; rfl
        have hF3 : ∀ x, A8 x = true → A8 ((fun x => ax8 (a29 b.src h.next) (Q6 Q x)) x) = true := fun x hx => by
         cases x <;> first | rfl | (simp only [Q6, ar5]; unfold br4; split <;> rfl) | (exfalso; simp [A8] at hx; done)
        refine hback βF ω _ (c44 hF1 hF2 hF3 c.out v1 hsh) ?_
        rw [bg3 hF1 hF2 hF3]
        have hfl : (K8 c.out).length = fu.length := by rw [aJ9 hsh, hfu.length]
        refine bH2 hfl fun k q x hq hx => ?_
        obtain ⟨n', es', g1, g2⟩ := hslots k q hq
        have hcl := hout q (List.mem_of_getElem? hq)
        have hsv : VR β2 ω' (p.1.slot k) x := by
         have hkl : k < fu.length := (List.getElem?_eq_some_iff.1 hx).1
         have := cv.fr.slot k id
         rw [Array.getD_eq_getD_getElem?] at this
         have h5 : (fu.toArray)[k]? = some x := by rw [List.getElem?_toArray]; exact hx
         simp only [h5, Option.getD_some] at this
         exact this
        rw [Nat.zero_add] at g1
        unfold ce0 at g1
        split at g1
        · rename_i i y s
          cases hmi : Nat.ble m i with
          | false =>
            rw [hmi] at g1
            refine aK0 (N := h.next) hag hcl ?_ g1 g2 hsv hFw
            simp only [aD0, bo.slen, hm0, k8]
            cases hh : Nat.blt i m with
            | true => exact k8.1 hh
            | false =>
              exfalso
              have : ¬ i < m := fun hlt => by rw [J7 hlt] at hh; cases hh
              rw [j2.2 (by omega)] at hmi; cases hmi
          | true =>
            rw [hmi] at g1
            simp only [cond_true] at g1
            obtain ⟨hown, _⟩ := a8 g1
            rw [j2] at hmi
            unfold cq8 at hown
            split at hown
            · rename_i c' l s' e' sg' l' hsl hgb
              obtain ⟨hown, o3⟩ := g9 hown
              obtain ⟨o1, o2⟩ := g9 hown
              obtain rfl := j0.1 o1
              obtain rfl := j0.1 o2
              have o3 := SX.beq_eq _ _ o3
              subst o3
              simp only [clA] at hcl
              rw [show Nat.ble b.src.length i = true by rw [j2, bo.slen, hm0]; exact hmi] at hcl
              simp only [cond_true] at hcl
              split at hcl
              · rename_i qq ee sig q' hpi
                obtain ⟨k1, k2⟩ := g9 hcl
                have k1 := SX.beq_eq _ _ k1
                subst k1
                have hmt : c.mt ≤ i := Nat.le_trans (by rw [← hm0]; exact fo.mt) hmi
                obtain ⟨n2, es2, a1, a2⟩ := hblks (i - c.mt) _ hpi
                rw [show c.mt + (i - c.mt) = i by omega, O7 (by omega : ¬ i < m)] at a1
                simp only [cond_false, aG0, hgb] at a1
                simp only [bv2] at a1
                obtain ⟨a3, a4⟩ := a8 a1
                have hrow := (hpost (i - c.mt) _ hpi).2 (by omega)
                have hden := I9 hag a4 hrow a2
                have hlen : dI ω (.op .llen [x8 1000 Q qq]) = dI ω' (.op .llen [l]) := by
                 rw [v7, v7]
                 exact congrArg (fun z : Val => (z.toL.length : Int)) hden
                have hname : a29 b.src h.next i = h.next + (i - m) := by
                 unfold a29
                 rw [List.getElem?_eq_none (by rw [bo.slen, hm0]; exact hmi), bo.slen, hm0]
                have hpl2 : i - c.mt < c.post.length := (List.getElem?_eq_some_iff.1 hpi).1
                have hFi : βF (h.next + (i - m)) = β2 (base + (i - m)) := by
                 rw [hhigh _ (Nat.le_add_right _ _) (by omega), show h.next + (i - m) - h.next = i - m by omega]
                show VR βF ω (.ous (a29 b.src h.next i) (bW6 Q (.op .llen [qq])) _) x
                rw [hname]
                rw [hsl] at hsv
                simp only [bW6, VR] at hsv ⊢
                rw [hlen, hFi]; exact hsv
              · cases hcl
            · cases hown
        · refine aK0 (N := h.next) hag hcl ?_ g1 g2 hsv hFw
          rename_i hne
          cases q <;> first | rfl | exact absurd rfl (hne _ _ _)
       ·
        have kind : ∀ x y L, (E6 (a29 b.src h.next) Q m c.post c.mt h).get x = some y → βF x = some L →
         (∃ i z, c.mt ≤ i ∧ β2 i = some L ∧ p.2.get i = some z ∧ z.isArr = y.isArr ∧ BR βF ω L w'.heap[L.blk]? y ∧ (i < m ∧ a29 b.src h.next i = x ∧ x < h.next ∨ m ≤ i ∧ h.next ≤ x ∧ i = base + (x - h.next) ∧ base ≤ i)) ∨
         (x < h.next ∧ h.get x = some y ∧ β x = some L ∧ ∀ i, c.mt ≤ i → i < m → a29 b.src h.next i ≠ x) := by
         intro x y L hy hL
         rcases hlay.get x y hy with ⟨j, q, g1, g2, g3, g4⟩ | ⟨j, q, g1, g2, g3, g4⟩ | ⟨g1, g2⟩
         · obtain ⟨y0, s1, s2, s3, s4, s5⟩ := hmut (c.mt + j) (by omega) g2
           have hxlt : x < h.next := by rw [← g3, s5]; exact s3
           have hL2 : β2 (c.mt + j) = some L := by
            rw [← hFw _ _ s1, ← s5, g3]; exact hL
           obtain ⟨⟨z, z1, z2⟩, z3⟩ := hFblk j q y L g1 g4 (by rw [J7 g2]; exact hL2)
           rw [J7 g2] at z1
           exact .inl ⟨c.mt + j, z, by omega, hL2, z1, z2, z3, .inl ⟨g2, g3, hxlt⟩⟩
         · rw [hmax] at g3
           have hjl : j < c.post.length := (List.getElem?_eq_some_iff.1 g1).1
           have hL2 : β2 (base + (c.mt + j - m)) = some L := by
            rw [hhigh x (by omega) (by omega), show x - h.next = c.mt + j - m by omega] at hL; exact hL
           obtain ⟨⟨z, z1, z2⟩, z3⟩ := hFblk j q y L g1 g4 (by rw [O7 (by omega)]; exact hL2)
           rw [O7 (by omega)] at z1
           exact .inl ⟨base + (c.mt + j - m), z, by have := fo.mt; omega, hL2, z1, z2, z3, .inr ⟨by omega, by omega, by omega, by omega⟩⟩
         · have hxlt : x < h.next := by
            rcases Nat.lt_or_ge x h.next with hh | hh
            · exact hh
            · rw [r.fget x hh] at g1; cases g1
           refine .inr ⟨hxlt, g1, by rw [← hlow x hxlt]; exact hL, fun i h1 h2 => ?_⟩
           have := g2 (i - c.mt) (by have := hpl; omega) (by omega)
           rw [show c.mt + (i - c.mt) = i by omega] at this; exact this
        have hr2 := cv.hr
        have hKc : ∀ k, K k → Kfc β b.src c.mt w k := fun k hk => ⟨Nat.lt_of_lt_of_le (r.kin k hk) r.size, fun i y L h1 h2 h3 hh => by
         have hi : i < m := by rw [← hm0, ← bo.slen]; exact (List.getElem?_eq_some_iff.1 h2).1
         obtain ⟨y0, s1, s2, s3, s4, s5⟩ := hmut i h1 hi
         rw [h2] at s1
         simp only [Option.some.injEq, BSrc.whole.injEq] at s1
         subst s1
         obtain ⟨_, hB⟩ := ar3 bo.blks hnd
         obtain ⟨q, hq⟩ : ∃ q, c.blks[i]? = some q := ⟨_, List.getElem?_eq_getElem (by rw [hm0]; exact hi)⟩
         obtain ⟨nd, g1, _⟩ := hB i q _ hq h2
         simp only [ckB] at g1
         split at g1
         · rename_i hg; exact r.free y _ L hg s2 h3 (hh ▸ hk)
         · rename_i hg; exact r.free y _ L hg s2 h3 (hh ▸ hk)
         · cases g1⟩
        have hold : ∀ x y L, x < h.next → h.get x = some y → β x = some L → (∀ i, c.mt ≤ i → i < m → a29 b.src h.next i ≠ x) → Kfc β b.src c.mt w L.blk := by
         intro x y L h1 h2 h3 h4
         refine ⟨r.lt x L h3, fun i y0 M g1 g2 g3 => ?_⟩
         have hi : i < m := by rw [← hm0, ← bo.slen]; exact (List.getElem?_eq_some_iff.1 g2).1
         obtain ⟨y1, s1, s2, s3, s4, s5⟩ := hmut i g1 hi
         rw [g2] at s1
         simp only [Option.some.injEq, BSrc.whole.injEq] at s1
         subst s1
         obtain ⟨_, hB⟩ := ar3 bo.blks hnd
         obtain ⟨q, hq⟩ : ∃ q, c.blks[i]? = some q := ⟨_, List.getElem?_eq_getElem (by rw [hm0]; exact hi)⟩
         obtain ⟨nd, k1, _⟩ := hB i q _ hq g2
         have hz : ∃ z, h.get y0 = some z := by
          simp only [ckB] at k1
          split at k1
          · rename_i hg; exact ⟨_, hg⟩
          · rename_i hg; exact ⟨_, hg⟩
          · cases k1
         obtain ⟨z, hz⟩ := hz
         exact r.sep x y0 y z L M h2 hz h3 g3 (fun hh => h4 i g1 hi (by rw [s5, hh])) (.inr (.inl s2))
        refine ⟨fun x y L hy hL => ?_, fun x x' y y' L L' hy hy' hL hL' hne hwk => ?_, fun x hx => ?_, fun x hx => ?_, fun x L hL => ?_, r.kin, fun k hk => (hr2.keep k (hKc k hk)).trans (r.keep k hk), fun x y L hy hwx hL hk => ?_,
         Nat.le_trans r.size hr2.size, hr2.os.trans r.os, hr2.tape.trans r.tape, hr2.out.trans r.out, Nat.le_trans r.dr hr2.dr⟩
        · rcases kind x y L hy hL with ⟨i, z, _, _, _, _, hbr, _⟩ | ⟨h1, h2, h3, h4⟩
          · exact hbr
          · rw [hr2.keep _ (hold x y L h1 h2 h3 h4)]
            exact (r.blk x y L h2 h3).mono hle
        · rcases kind x y L hy hL with ⟨i, z, a1, a2, a3, a4, a5, a6⟩ | ⟨a1, a2, a3, a4⟩
          · rcases kind x' y' L' hy' hL' with ⟨j, z', b1, b2, b3, b4, b5, b6⟩ | ⟨b1, b2, b3, b4⟩
            · refine hr2.sep i j z z' L L' a3 b3 a2 b2 (fun hh => hne ?_) (.inl (by rw [hwm2]; exact a1))
              subst hh
              rcases a6 with ⟨c1, c2, c3⟩ | ⟨c1, c2, c3, c4⟩
              · rcases b6 with ⟨d1, d2, d3⟩ | ⟨d1, d2, d3, d4⟩
                · rw [← c2, ← d2]
                · omega
              · rcases b6 with ⟨d1, d2, d3⟩ | ⟨d1, d2, d3, d4⟩
                · omega
                · omega
            · exact fun hh => hr2.free i z L a3 (by rw [hwm2]; exact a1) a2 (hh ▸ hold x' y' L' b1 b2 b3 b4)
          · rcases kind x' y' L' hy' hL' with ⟨j, z', b1, b2, b3, b4, b5, b6⟩ | ⟨b1, b2, b3, b4⟩
            · exact fun hh => hr2.free j z' L' b3 (by rw [hwm2]; exact b1) b2 (hh ▸ hold x y L a1 a2 a3 a4)
            · exact r.sep x x' y y' L L' a2 b2 a3 b3 hne (by rw [hlay.wm] at hwk; exact hwk)
        · rw [hnext2] at hx
          show (if x < h.next then β x else if x < h.next + (c.mt + c.post.length - m) then β2 (base + (x - h.next)) else none) = none
          rw [if_neg (by omega), if_neg (by omega)]
        · rw [hnext2] at hx
          cases hy : (E6 (a29 b.src h.next) Q m c.post c.mt h).get x with
          | none => rfl
          | some y =>
            exfalso
            rcases hlay.get x y hy with ⟨j, q, g1, g2, g3, g4⟩ | ⟨j, q, g1, g2, g3, g4⟩ | ⟨g1, g2⟩
            · obtain ⟨y0, s1, s2, s3, s4, s5⟩ := hmut (c.mt + j) (by omega) g2
              rw [s5] at g3; omega
            · have hjl : j < c.post.length := (List.getElem?_eq_some_iff.1 g1).1
              rw [hmax] at g3; omega
            · rw [r.fget x (by omega)] at g1; cases g1
        · rcases Nat.lt_or_ge x h.next with hh | hh
          · rw [hlow x hh] at hL; exact Nat.lt_of_lt_of_le (r.lt x L hL) hr2.size
          · have hlt : x < h.next + (c.mt + c.post.length - m) := by
             rcases Nat.lt_or_ge x (h.next + (c.mt + c.post.length - m)) with q | q
             · exact q
             · have : βF x = none := by
                show (if x < h.next then β x else if x < h.next + (c.mt + c.post.length - m) then β2 (base + (x - h.next)) else none) = none
                rw [if_neg (by omega), if_neg (by omega)]
               rw [this] at hL; cases hL
            rw [hhigh x hh hlt] at hL; exact hr2.lt _ L hL
        · rcases kind x y L hy hL with ⟨i, z, a1, a2, a3, a4, a5, a6⟩ | ⟨a1, a2, a3, a4⟩
          · exact hr2.free i z L a3 (by rw [hwm2]; exact a1) a2 (hKc _ hk)
          · exact r.free x y L a2 (by rw [hlay.wm] at hwx; exact hwx) a3 hk
       ·
        refine ⟨by rw [hnext2]; exact Nat.le_add_right _ _, hlow, fun x hx hno => ?_, hlay.wm⟩
        by_cases hex : ∃ j, j < c.post.length ∧ c.mt + j < m ∧ a29 b.src h.next (c.mt + j) = x
        · obtain ⟨j, hj, hmj, hh⟩ := hex
          obtain ⟨y0, s1, s2, s3, s4, s5⟩ := hmut (c.mt + j) (by omega) hmj
          right
          rw [s5] at hh
          subst hh
          rcases s4 with s4 | s4 | s4
          · exact absurd hno s4
          · by_cases har : ∃ e sig l, h.get y0 = some (.arr e sig l)
            · exact .inr har
            left
            cases hy : (E6 (a29 b.src h.next) Q m c.post c.mt h).get y0 with
            | none => rfl
            | some y =>
              exfalso
              rcases hlay.get y0 y hy with ⟨j', q, g1, g2, g3, g4⟩ | ⟨j', q, g1, g2, g3, g4⟩ | ⟨g1, g2⟩
              · obtain ⟨y1, t1, t2, t3, t4, t5⟩ := hmut (c.mt + j') (by omega) g2
                rw [t5] at g3
                subst g3
                rcases t4 with t4 | t4 | t4
                · exact t4 hno
                · rw [show c.mt + j' - c.mt = j' by omega, g1, Option.some.injEq] at t4
                  subst t4; cases g4
                · exact har t4
              · rw [hmax] at g3; omega
              · exact g2 j hj hmj s5
          · exact .inr s4
        · left
          exact hlay.keep x hx fun j hj hmj hh => hex ⟨j, hj, hmj, hh⟩
     · simp [j3] at hk
   · simp [j3] at hk
 · simp [j3] at hk
theorem bH8 {x x' : AV} {nd : SX} {h' : Heap} {u : Value} (e : bG3 x h = some (nd, x', h')) (hd : dB ω nd = true) (r : HR β ω K w0 h w) (hx : VR β ω x u) : VR β ω x' u ∧ HR β ω K w0 h' w ∧ St h β h' β := by
 unfold bG3 at e
 split at e
 · rename_i b len s
   split at e
   · rename_i el sig l hg
     obtain ⟨hc, e⟩ := a8 e
     obtain ⟨hc, c3⟩ := g9 hc
     obtain ⟨c1, _⟩ := g9 hc
     rw [j2] at c1
     simp only [Option.some.injEq, Prod.mk.injEq] at e
     obtain ⟨rfl, rfl, rfl⟩ := e
     obtain ⟨d1, d2⟩ := g9 (a := dB ω (.op (.cmp .leq) [.ci 0, len])) (b := dB ω (.op (.cmp .leq) [len, .op .llen [l]])) hd
     have d1 : 0 ≤ dI ω len := of_decide_eq_true d1
     have d2 : dI ω len ≤ ((dL ω l).length : Int) := of_decide_eq_true d2
     have hsub : dL ω (.op .lsub [l, .ci 0, len]) = (dL ω l).take (dI ω len).toNat := by
      show ((dL ω l).drop (0 : Int).toNat).take (dI ω len - 0).toNat = _
      simp
     have hlen : dI ω (.op .llen [.op .lsub [l, .ci 0, len]]) = dI ω len := by
      show ((dL ω (.op .lsub [l, .ci 0, len])).length : Int) = _
      rw [hsub, List.length_take]; omega
     have hb65 := Heap.get_lim h b _ hg
     refine ⟨?_, ?_, ?_⟩
     · simp only [VR] at hx ⊢
       rw [hlen]; exact hx
     · refine HR.retell (y := .arr el sig (.op .lsub [l, .ci 0, len])) r hg (.inl c1) ?_ rfl rfl (fun z => by rw [Heap.get_put, if_pos hb65])
       intro L' hL' hbr
       obtain ⟨C, e', lo, hi, z1, z0, z2, z3, z4, z5⟩ := hbr
       refine ⟨C, e', lo, hi, z1, z0, z2, ?_, fun i v hv => ?_, z5⟩
       · rw [hsub, List.length_take]
         exact Nat.le_trans (Nat.mul_le_mul_right _ (Nat.min_le_right _ _)) z3
       · refine z4 i v ?_
         rw [hsub] at hv
         rw [← List.take_append_drop (dI ω len).toNat (dL ω l), R2, List.getElem?_append_left (List.getElem?_eq_some_iff.1 hv).1]
         exact hv
     · refine ⟨Nat.le_refl _, fun _ _ => rfl, fun z hz hzn => ?_, rfl⟩
       by_cases e1 : z = b
       · subst e1; exact .inr (.inr ⟨_, _, _, hg⟩)
       · left; rw [Heap.get_put, if_neg e1]
   · cases e
 · cases e
theorem ar8 : ∀ {args args' : List AV} {nd : SX} {h h' : Heap} {us : List Value}, a72 args h = (nd, args', h') → dB ω nd = true → HR β ω K w0 h w → VRs β ω args us → VRs β ω args' us ∧ HR β ω K w0 h' w ∧ St h β h' β
 | [], args', nd, h, h', us, e, hd, r, ra => by
   simp only [a72, Prod.mk.injEq] at e
   obtain ⟨rfl, rfl, rfl⟩ := e
   exact ⟨ra, r, .refl _ _⟩
 | x :: rest, args', nd, h, h', us, e, hd, r, ra => by
   obtain ⟨u, ur, rfl, rx, rr⟩ := ra
   unfold a72 at e
   split at e
   · rename_i e1 x1 h1 ht
     generalize hq : a72 rest h1 = q at e
     obtain ⟨e2, r2, h2⟩ := q
     simp only [Prod.mk.injEq] at e
     obtain ⟨rfl, rfl, rfl⟩ := e
     obtain ⟨d1, d2⟩ := aD3 hd
     obtain ⟨a1, a2, a3⟩ := bH8 ht d1 r rx
     obtain ⟨b1, b2, b3⟩ := ar8 hq d2 a2 rr
     exact ⟨.cons a1 b1, b2, a3.trans b3⟩
   · generalize hq : a72 rest h = q at e
     obtain ⟨e2, r2, h2⟩ := q
     simp only [Prod.mk.injEq] at e
     obtain ⟨rfl, rfl, rfl⟩ := e
     obtain ⟨b1, b2, b3⟩ := ar8 hq hd r rr
     exact ⟨.cons rx b1, b2, b3⟩
theorem bH9 {nd : SX} {r : Res} {v : AV} {h' : Heap} (e : aD1 nd r = .val v h' ∨ ∃ x, aD1 nd r = .need x v h' ∧ dB ω x = true) : dB ω nd = true ∧ (r = .val v h' ∨ ∃ x, r = .need x v h' ∧ dB ω x = true) := by
 cases r with
 | val v1 h1 =>
   simp only [aD1, bW7] at e
   split at e
   · rcases e with e | ⟨x, e, _⟩
     · exact ⟨rfl, .inl e⟩
     · cases e
   · rcases e with e | ⟨x, e, hd⟩
     · cases e
     · simp only [Res.need.injEq] at e
       obtain ⟨rfl, rfl, rfl⟩ := e
       exact ⟨hd, .inl rfl⟩
 | need e1 v1 h1 =>
   simp only [aD1] at e
   rcases e with e | ⟨x, e, hd⟩
   · cases e
   · simp only [Res.need.injEq] at e
     obtain ⟨rfl, rfl, rfl⟩ := e
     obtain ⟨d1, d2⟩ := aD3 hd
     exact ⟨d1, .inr ⟨_, rfl, d2⟩⟩
 | _ =>
   simp only [aD1] at e
   rcases e with e | ⟨x, e, _⟩ <;> cases e
theorem bI0 {Ω : Opq → Prop} (hΩ : ∀ ω v0 l, Ω ω → Ω (ω.upd v0 l)) {f : FuncId} {nv : Nat} {c : FC} (hc : bG2 c nv = true) (hm : bH5 E Ω f c) (hω : Ω ω)
 {args : List AV} {v : AV} {h' : Heap} (e : K1 c nv args h = .val v h' ∨ ∃ x, K1 c nv args h = .need x v h' ∧ dB ω x = true) : P3 E ω f args h v h' := by
 unfold K1 at e
 cases hbd : b51 c nv args h with
 | some b =>
   rw [hbd] at e
   exact bH7 hΩ hc hm hω (by unfold ar0; rw [hbd]; exact e)
 | none =>
   rw [hbd] at e
   generalize hq : a72 args h = q at e
   obtain ⟨nd, args', h1⟩ := q
   obtain ⟨hd, e⟩ := bH9 (ω := ω) e
   intro K w0 β w us r ra
   obtain ⟨a1, a2, a3⟩ := ar8 hq hd r ra
   refine Calls.mono (bH7 hΩ hc hm hω e K w0 β w us a2 a1) ?_
   rintro e' w' ⟨u, β', rfl, h1, h2, h3⟩
   exact ⟨u, β', rfl, h1, h2, a3.trans h3⟩
theorem ce3 {Ω : Opq → Prop} (hΩ : ∀ ω v0 l, Ω ω → Ω (ω.upd v0 l)) {f : FuncId} {n nv : Nat} {c : FC} (hc : bG2 c nv = true) (hm : bH4 E Ω n f c) (hω : Ω ω)
 {args : List AV} {v : AV} {h' : Heap} (e : K1 c nv args h = .val v h' ∨ ∃ x, K1 c nv args h = .need x v h' ∧ dB ω x = true) : P3 E ω f args h v h' :=
 bI0 hΩ hc (bH6 hc hm) hω e
theorem cr4 {Ω : Opq → Prop} (hΩ : ∀ ω v0 l, Ω ω → Ω (ω.upd v0 l)) (hP : E0.P = E.P) {f : FuncId} {n nv : Nat} {c : FC} (hc : bG2 c nv = true) (hb : ∀ ω, Ω ω → bE6 E0 ω n) (hm : bH3 E0 Ω n f c) (hω : Ω ω)
 {args : List AV} {v : AV} {h' : Heap} (e : K1 c nv args h = .val v h' ∨ ∃ x, K1 c nv args h = .need x v h' ∧ dB ω x = true) : P3 E ω f args h v h' :=
 ce3 hΩ hc (fun ω hω hn => ⟨E0, hP, hb ω hω, hm ω hω hn⟩) hω e
end Go.Ev
