import Derived.Test.YtdhepaehegnfdaaGreatDoorE41
import Derived.Test.YtdhepaehegnfdaaGreatDoorE32
import Derived.ChangeArms
set_option linter.unusedVariables false
set_option linter.unusedSimpArgs false
namespace Go.Ev
open Go Go.RowKit Go.WideShapes Go.ChangeShapes
def cG1 : CT → Value → Prop
 | .int k, v => ∃ n, v = .int k n ∧ k.min ≤ n ∧ n ≤ k.max
 | .str, v => ∃ s, v = .string s
 | .bool, v => ∃ b, v = .bool b
def aK1 {α : Type} (fit : α → Value → Prop) : List α → List Value → Prop
 | [], vs => vs = []
 | c :: s, vs => ∃ v r, vs = v :: r ∧ fit c v ∧ aK1 fit s r
def cD0 : List CT → List Value → Prop := aK1 cG1
theorem af4 {α : Type} {fit : α → Value → Prop} : ∀ {s : List α} {vs : List Value}, aK1 fit s vs → vs.length = s.length
 | [], _, h => by rw [h]; rfl
 | _ :: s, _, ⟨v, r, e, _, h⟩ => by rw [e]; simp [af4 h]
section
variable {H : Type} {enc : TypeId × Value → H} {P : Program} {w : World} {base : Nat} {sp : Nat → Bool} {hd : Bool}
inductive Sh where
 | col (c : CT)
 | sl (sig : List CT)
def cr6 (w : World) : Sh → Value → Prop
 | .col c, v => cG1 c v
 | .sl sig, v => v = .slice none 0 0 ∨ ∃ a len cap, v = .slice (some a) len cap ∧ 0 < sig.length ∧ len ≤ cap ∧ (∀ i, i < len → ∃ vs, w.cells? 0 (a.add (i * sig.length)) sig.length = some vs ∧ cD0 sig vs) ∧ ∀ j, j < len * sig.length → w.frozen? ⟨a.block, a.off + j, none⟩ = false
def cG2 (w : World) (ps : List MemPlace) : Prop := ∀ b off, MemPlace.cell b off ∈ ps → w.frozen? ⟨b, off, none⟩ = false
def aK2 (w : World) (sz : Nat) (a : Addr) (len : Nat) : List Val := (List.range len).map fun i => .vl (((w.cells? 0 (a.add (i * sz)) sz).getD []).map cp7)
def ce4 (w : World) (s : Sh) (v : Value) : Val := match s, v with
 | .col _, v => cp7 v
 | .sl sig, .slice (some a) len _ => .vl (aK2 w sig.length a len)
 | _, _ => .vl []
def cr7 (sig : List CT) (v : Value) : Option Loc := match v with
 | .slice (some a) len _ => if 0 < len then some ⟨a.block, a.off, len * sig.length⟩ else none
 | _ => none
def nSl : Sh → Nat
 | .sl _ => 1
 | .col _ => 0
def cD1 (n b : Nat) : Sh → AV
 | .col (.int k) => .oint k (.va n)
 | .col .str => .ostr (.va n)
 | .col .bool => .obool (.va n)
 | .sl sig => .osl b (.ci 0) (.op .llen [.va n]) sig.length
def bg4 : List Sh → Nat → Nat → List AV
 | [], _, _ => []
 | s :: r, n, b => cD1 n b s :: bg4 r (n + 1) (b + nSl s)
def a02 : List Sh → Nat → List Blk
 | [], _ => []
 | .sl sig :: r, n => .arr a40 sig (.va n) :: a02 r (n + 1)
 | .col _ :: r, n => a02 r (n + 1)
def a30 : List Sh → List Value → List (Option Loc)
 | .sl sig :: r, v :: vs => cr7 sig v :: a30 r vs
 | .col _ :: r, _ :: vs => a30 r vs
 | _, _ => []
theorem bg5 {a : Addr} {n : Nat} {vs : List Value} (h : w.cells? 0 a n = some vs) : vs.length = n ∧ ∀ j, j < n → w.cell? (a.add j) = vs[j]? := by
 unfold World.cells? at h
 rw [if_pos (Nat.zero_le _)] at h
 have : ∀ (l : List Nat) (vs : List Value), (l.mapM fun i => w.cell? (a.add i)) = some vs → vs.length = l.length ∧ ∀ j (hj : j < l.length), w.cell? (a.add l[j]) = vs[j]? := by
  intro l
  induction l with
  | nil => intro vs h; simp at h; subst h; exact ⟨rfl, fun j hj => by simp at hj⟩
  | cons x l ih =>
    intro vs h
    rw [List.mapM_cons] at h
    simp only [Option.bind_eq_bind, Option.bind_eq_some_iff, Option.pure_def, Option.some.injEq] at h
    obtain ⟨y, hy, ys, hys, rfl⟩ := h
    obtain ⟨h1, h2⟩ := ih ys hys
    refine ⟨by simp [h1], fun j hj => ?_⟩
    cases j with
    | zero => simpa using hy
    | succ j => simpa using h2 j (by simpa using hj)
 obtain ⟨h1, h2⟩ := this _ _ h
 rw [List.length_range] at h1
 exact ⟨h1, fun j hj => by
  have := h2 j (by rw [List.length_range]; exact hj)
  rwa [List.getElem_range] at this⟩
theorem aV5 {a : Addr} {k : Nat} {v : Value} (h : w.cell? (a.add k) = some v) : ∃ C e lo hi, w.heap[a.block]? = some (.cells C e (lo, hi)) ∧ C[a.off + k]? = some v ∧ (k = 0 → a.spot = none) := by
 have hb : (a.add k).block = a.block := by unfold Addr.add; split <;> rfl
 have ho : (a.add k).off = a.off + k := by unfold Addr.add; split <;> simp_all
 unfold World.cell? at h
 rw [hb, ho] at h
 split at h
 · rename_i C e fr hh
   split at h
   · cases h
   · rename_i hs
     refine ⟨C, e, fr.1, fr.2, hh, h, fun hk => ?_⟩
     subst hk
     simpa [Addr.add] using hs
 · cases h
theorem c45 : ∀ {sig : List CT} {vs : List Value} {j : Nat}, cD0 sig vs → j < sig.length → ∃ u, vs[j]? = some u ∧ O8 (sig.getD j .bool) (cp7 u) = u
 | c :: s, vs, 0, ⟨v, r, e, h, _⟩, _ => by
   refine ⟨v, by rw [e]; rfl, ?_⟩
   cases c with
   | int k => obtain ⟨n, rfl, _⟩ := h; rfl
   | str => obtain ⟨n, rfl⟩ := h; simp [O8, cp7, Val.toS]
   | bool => obtain ⟨n, rfl⟩ := h; rfl
 | c :: s, vs, j + 1, ⟨v, r, e, _, h⟩, hj => by
   obtain ⟨u, h1, h2⟩ := c45 (sig := s) (vs := r) (j := j) h (by simpa using hj)
   exact ⟨u, by rw [e]; simpa using h1, by simpa using h2⟩
 | [], _, _, _, hj => by simp at hj
theorem cr8 {β : Bij} {ω : Opq} {sig : List CT} {a : Addr} {len n : Nat} (h0 : 0 < len) (hs : 0 < sig.length) (hc : ∀ i, i < len → ∃ vs, w.cells? 0 (a.add (i * sig.length)) sig.length = some vs ∧ cD0 sig vs)
 (hf : ∀ j, j < len * sig.length → w.frozen? ⟨a.block, a.off + j, none⟩ = false) (hw : ω.w n = .vl (aK2 w sig.length a len)) : BR β ω ⟨a.block, a.off, len * sig.length⟩ w.heap[a.block]? (.arr a40 sig (.va n)) := by
 have hcell : ∀ i j, i < len → j < sig.length → ∃ u C e lo hi, w.heap[a.block]? = some (.cells C e (lo, hi)) ∧ C[a.off + (i * sig.length + j)]? = some u ∧ O8 (sig.getD j .bool) ((((aK2 w sig.length a len).getD i (.vl [])).toL).getD j default) = u := by
  intro i j hi hj
  obtain ⟨vs, h1, h2⟩ := hc i hi
  obtain ⟨h3, h4⟩ := bg5 h1
  obtain ⟨u, h5, h6⟩ := c45 h2 hj
  have h7 := h4 j hj
  rw [h5] at h7
  have hadd : (a.add (i * sig.length)).add j = a.add (i * sig.length + j) ∨ True := .inr trivial
  obtain ⟨C, e, lo, hi', h8, h9, _⟩ := aV5 h7
  have hb : (a.add (i * sig.length)).block = a.block := by unfold Addr.add; split <;> rfl
  have ho : (a.add (i * sig.length)).off = a.off + i * sig.length := by unfold Addr.add; split <;> simp_all
  rw [hb] at h8
  rw [ho, Nat.add_assoc] at h9
  refine ⟨u, C, e, lo, hi', h8, h9, ?_⟩
  rw [← h6]
  congr 1
  simp only [aK2, List.getD_eq_getElem?_getD, List.getElem?_map, List.getElem?_range hi, Option.map_some, Option.getD_some, Val.toL, h1, h5]
 obtain ⟨_, C, e, lo, hi, hh, _, _⟩ := hcell 0 0 h0 hs
 have hC : ∀ i j, i < len → j < sig.length → ∃ u, C[a.off + (i * sig.length + j)]? = some u ∧ O8 (sig.getD j .bool) ((((aK2 w sig.length a len).getD i (.vl [])).toL).getD j default) = u := by
  intro i j h1 h2
  obtain ⟨u, C', e', lo', hi', g1, g2, g3⟩ := hcell i j h1 h2
  rw [hh] at g1
  simp only [Option.some.injEq, Obj.cells.injEq, Prod.mk.injEq] at g1
  obtain ⟨rfl, rfl, rfl, rfl⟩ := g1
  exact ⟨u, g2, g3⟩
 have hl : (dL ω (.va n)) = aK2 w sig.length a len := by show (ω.w n).toL = _; rw [hw]; rfl
 have hlen : (aK2 w sig.length a len).length = len := by simp [aK2]
 refine ⟨C, e, lo, hi, hh, .inr rfl, ?_, by rw [hl, hlen]; exact Nat.le_refl _, fun i v hi' => ?_, fun i hi' => ?_⟩
 · obtain ⟨u, h1, _⟩ := hC (len - 1) (sig.length - 1) (by omega) (by omega)
   have := (Array.getElem?_eq_some_iff.1 h1).1
   have e1 : (len - 1) * sig.length + sig.length = len * sig.length := by rw [← Nat.succ_mul]; congr 1; omega
   show a.off + len * sig.length ≤ C.size
   omega
 · rw [hl] at hi'
   have hlt : i < len * sig.length := by
    have := (List.getElem?_eq_some_iff.1 hi').1
    rw [k9, hlen] at this; exact this
   have hq : i / sig.length < len := Nat.div_lt_of_lt_mul (by rw [Nat.mul_comm]; exact hlt)
   have hr : i % sig.length < sig.length := Nat.mod_lt _ hs
   have hi2 : i = i / sig.length * sig.length + i % sig.length := by rw [Nat.mul_comm]; exact (Nat.div_add_mod i sig.length).symm
   obtain ⟨u, h1, h2⟩ := hC _ _ hq hr
   rw [hi2, W3 hr (by rw [hlen]; exact hq), h2, Option.some.injEq] at hi'
   show C[a.off + i]? = some v
   rw [hi2, h1, hi']
 · have := hf i hi'
   unfold World.frozen? at this
   rw [hh] at this
   simp only [Bool.and_eq_false_iff, decide_eq_false_iff_not] at this
   show ¬ (lo ≤ a.off + i ∧ a.off + i < hi)
   omega
theorem bg6 {α : Type} {fit : α → Value → Prop} : ∀ {s : List α} {vs : List Value} {i : Nat} {a : α} {v : Value}, aK1 fit s vs → s[i]? = some a → vs[i]? = some v → fit a v
 | _ :: _, _, 0, _, _, ⟨v, r, rfl, h, _⟩, h1, h2 => by
   simp only [List.getElem?_cons_zero, Option.some.injEq] at h1 h2
   subst h1; subst h2; exact h
 | _ :: _, _, i + 1, _, _, ⟨v, r, rfl, _, h⟩, h1, h2 => bg6 (i := i) h (by simpa using h1) (by simpa using h2)
 | [], _, _, _, _, _, h1, _ => by simp at h1
theorem aK3 : ∀ {L : List Sh} {vs : List Value} {n : Nat}, aK1 (cr6 w) L vs → (a30 L vs).length = (a02 L n).length ∧ ∀ (j : Nat) (x : Blk), (a02 L n)[j]? = some x → ∃ sig m v, x = .arr a40 sig (.va (n + m)) ∧ L[m]? = some (.sl sig) ∧ vs[m]? = some v ∧ (a30 L vs)[j]? = some (cr7 sig v)
 | [], vs, n, h => ⟨by simp [a30, a02], fun j x hx => by simp [a02] at hx⟩
 | .col c :: r, _, n, ⟨v, vs, rfl, _, h⟩ => by
   obtain ⟨h1, h2⟩ := aK3 (n := n + 1) h
   refine ⟨h1, fun j x hx => ?_⟩
   obtain ⟨sig, m, v', e1, e2, e3, e4⟩ := h2 j x hx
   exact ⟨sig, m + 1, v', by rw [e1, Nat.add_assoc, Nat.add_comm 1 m], by simpa using e2, by simpa using e3, e4⟩
 | .sl sig :: r, _, n, ⟨v, vs, rfl, _, h⟩ => by
   obtain ⟨h1, h2⟩ := aK3 (n := n + 1) h
   refine ⟨by simp only [a30, a02, List.length_cons, h1], fun j x hx => ?_⟩
   cases j with
   | zero =>
     simp only [a02, List.getElem?_cons_zero, Option.some.injEq] at hx
     exact ⟨sig, 0, v, hx.symm, rfl, rfl, rfl⟩
   | succ j =>
     obtain ⟨sig', m, v', e1, e2, e3, e4⟩ := h2 j x (by simpa [a02] using hx)
     exact ⟨sig', m + 1, v', by rw [e1, Nat.add_assoc, Nat.add_comm 1 m], by simpa using e2, by simpa using e3, by simpa [a30] using e4⟩
theorem bI1 {sig : List CT} {v : Value} {M : Loc} (e : cr7 sig v = some M) : ∃ a len cap, v = .slice (some a) len cap ∧ 0 < len ∧ M = ⟨a.block, a.off, len * sig.length⟩ := by
 unfold cr7 at e
 split at e
 · rename_i a len cap
   split at e
   · rename_i h
     simp only [Option.some.injEq] at e
     exact ⟨a, len, cap, rfl, h, e.symm⟩
   · cases e
 · cases e
theorem cr9 {β : Bij} {ω : Opq} {L : List Sh} {vs : List Value} (hfit : aK1 (cr6 w) L vs) (hω : ∀ (i : Nat) s v, L[i]? = some s → vs[i]? = some v → ω.w i = ce4 w s v) (hβ : ∀ b, β b = ((a30 L vs)[b]?).getD none)
 {h : Heap} (hn : h.next = (a02 L 0).length) (hwm : h.wm = (a02 L 0).length) (hg : ∀ b, h.get b = (a02 L 0)[b]?) : HR β ω (· < w.heap.size) w h w := by
 obtain ⟨hlen, hat⟩ := aK3 (n := 0) hfit
 have hlt : ∀ b x, h.get b = some x → b < (a02 L 0).length := fun b x hx => by
  rw [hg] at hx; exact (List.getElem?_eq_some_iff.1 hx).1
 have harr : ∀ b x, h.get b = some x → x.isArr = true := fun b x hx => by
  rw [hg] at hx
  obtain ⟨sig, m, v, e, _⟩ := hat b x hx
  rw [e]; rfl
 have hloc : ∀ b M, β b = some M → ∃ sig m a len cap, L[m]? = some (.sl sig) ∧ vs[m]? = some (.slice (some a) len cap) ∧ 0 < len ∧ M = ⟨a.block, a.off, len * sig.length⟩ ∧ (a02 L 0)[b]? = some (.arr a40 sig (.va m)) := by
  intro b M hb
  rw [hβ] at hb
  have hb' : b < (a02 L 0).length := by
   rcases Nat.lt_or_ge b (a30 L vs).length with hh | hh
   · omega
   · rw [List.getElem?_eq_none hh] at hb; cases hb
  obtain ⟨sig, m, v, e1, e2, e3, e4⟩ := hat b _ (List.getElem?_eq_getElem hb')
  rw [e4, Option.getD_some] at hb
  obtain ⟨a, len, cap, rfl, h0, rfl⟩ := bI1 hb
  exact ⟨sig, m, a, len, cap, e2, e3, h0, rfl, by rw [List.getElem?_eq_getElem hb', e1, Nat.zero_add]⟩
 have hbr : ∀ b x M, h.get b = some x → β b = some M → BR β ω M w.heap[M.blk]? x := by
  intro b x M hx hb
  obtain ⟨sig, m, a, len, cap, h1, h2, h0, rfl, h4⟩ := hloc b M hb
  rw [hg, h4, Option.some.injEq] at hx
  subst hx
  have hf := bg6 hfit h1 h2
  rcases hf with hf | ⟨a', len', cap', hf, hs, _, hc, hz⟩
  · cases hf
  · simp only [Value.slice.injEq, Option.some.injEq] at hf
    obtain ⟨rfl, rfl, rfl⟩ := hf
    exact cr8 h0 hs hc hz (hω m _ _ h1 h2)
 refine ⟨hbr, fun b b' x x' M M' h1 h2 _ _ _ h5 => ?_, fun b hb => ?_, fun b hb => ?_, fun b M hb => ?_, fun i hi => hi, fun i _ => rfl, fun b x M h1 h2 _ => ?_, Nat.le_refl _, rfl, rfl, rfl, Nat.le_refl _⟩
 · have q1 := hlt _ _ h1
   have q2 := hlt _ _ h2
   rw [hwm] at h5
   rcases h5 with h5 | h5 | h5 | h5
   · omega
   · omega
   · rw [harr _ _ h1] at h5; cases h5
   · rw [harr _ _ h2] at h5; cases h5
 · rw [hn] at hb
   rw [hβ, List.getElem?_eq_none (by omega)]; rfl
 · rw [hn] at hb
   rw [hg, List.getElem?_eq_none hb]
 · obtain ⟨sig, m, a, len, cap, h1, h2, h0, rfl, h4⟩ := hloc b M hb
   obtain ⟨C, e', lo, hi, hh, _⟩ := hbr b _ _ (by rw [hg]; exact h4) hb
   exact (Array.getElem?_eq_some_iff.1 hh).1
 · have := hlt _ _ h1
   rw [hwm] at h2; omega
theorem bI2 {β : Bij} {ω : Opq} : ∀ {L : List Sh} {vs : List Value} {n b : Nat}, aK1 (cr6 w) L vs → (∀ (i : Nat) s v, L[i]? = some s → vs[i]? = some v → ω.w (n + i) = ce4 w s v) → (∀ (j : Nat) x, (a30 L vs)[j]? = some x → β (b + j) = x) → VRs β ω (bg4 L n b) vs
 | [], _, _, _, h, _, _ => by rw [h]; rfl
 | s :: r, _, n, b, ⟨v, vs, rfl, hf, h⟩, hω, hβ => by
   have hv := hω 0 s v rfl rfl
   rw [Nat.add_zero] at hv
   have hrest : VRs β ω (bg4 r (n + 1) (b + nSl s)) vs := by
    refine bI2 h (fun i s' v' h1 h2 => ?_) (fun j x hx => ?_)
    · have := hω (i + 1) s' v' (by simpa using h1) (by simpa using h2)
      rw [← this]; congr 1; omega
    · cases s with
      | col c => exact hβ j x hx
      | sl sig =>
        have := hβ (j + 1) x (by simpa [a30] using hx)
        rw [← this]; congr 1; simp only [nSl]; omega
   refine ⟨v, vs, rfl, ?_, hrest⟩
   cases s with
   | col c =>
     cases c with
     | int k => obtain ⟨m, rfl, _⟩ := hf; show Value.int k m = .int k (ω.w n).toI; rw [hv]; rfl
     | str => obtain ⟨m, rfl⟩ := hf; show Value.string m = .string ⟨(ω.w n).toS.toArray⟩; rw [hv]; simp [ce4, cp7, Val.toS]
     | bool => obtain ⟨m, rfl⟩ := hf; show Value.bool m = .bool (ω.w n).toB; rw [hv]; rfl
   | sl sig =>
     rcases hf with rfl | ⟨a, len, cap, rfl, hs, hlc, hc, hz⟩
     · refine .inr ⟨none, 0, rfl, fun _ => rfl, ?_⟩
       show (((ω.w n).toL.length : Nat) : Int) = 0
       rw [hv]; rfl
     · have hd : dI ω (.op .llen [.va n]) = (len : Int) := by
        show (((ω.w n).toL.length : Nat) : Int) = len
        rw [hv]; simp [ce4, aK2, Val.toL]
       by_cases h0 : 0 < len
       · refine .inl ⟨⟨a.block, a.off, len * sig.length⟩, cap, a, ?_, by rw [hd]; rfl, by rw [hd]; exact hlc, fun _ => ?_⟩
         · have := hβ 0 (some ⟨a.block, a.off, len * sig.length⟩) (by simp [a30, cr7, h0])
           exact this
         · obtain ⟨us, h1, h2⟩ := hc 0 h0
           obtain ⟨h3, h4⟩ := bg5 h1
           have h5 := h4 0 hs
           rw [List.getElem?_eq_getElem (by omega)] at h5
           have e0 : (a.add (0 * sig.length)).add 0 = a.add 0 := by simp [Addr.add]
           rw [e0] at h5
           obtain ⟨_, _, _, _, _, _, h6⟩ := aV5 h5
           show a = ⟨a.block, a.off + (dI ω (.ci 0)).toNat * sig.length, none⟩
           have : (dI ω (.ci 0)).toNat = 0 := rfl
           rw [this, Nat.zero_mul, Nat.add_zero, ← h6 rfl]
       · obtain rfl : len = 0 := by omega
         exact .inr ⟨some a, cap, rfl, fun hh => (by cases hh), hd⟩
def bg7 (F : Nat → List Val → Val) (P : Program) (w : World) (L : List Sh) (cells : List Value) : Opq := ⟨fun _ => .bool false, fun n => ce4 w (L.getD n (.col .bool)) (cells.getD n (.bool false)), F, fun _ => rfl, fun t => aa9 P t⟩
def ad0 (r : Res) : Option (SX × AV) := match r with
 | .val v _ => some (.cb true, v)
 | .need e v _ => some (e, v)
 | _ => none
theorem aD4 {r : Res} {e : SX} {v : AV} {ω : Opq} (h : ad0 r = some (e, v)) (hd : dB ω e = true) : ∃ h', r = .val v h' ∨ ∃ x, r = .need x v h' ∧ dB ω x = true := by
 unfold ad0 at h
 split at h
 · simp only [Option.some.injEq, Prod.mk.injEq] at h
   obtain ⟨_, rfl⟩ := h
   exact ⟨_, .inl rfl⟩
 · simp only [Option.some.injEq, Prod.mk.injEq] at h
   obtain ⟨rfl, rfl⟩ := h
   exact ⟨_, .inr ⟨_, rfl, hd⟩⟩
 · cases h
theorem ce5 {E : Env} {F : Nat → List Val → Val} {x : HC} (hx : C5 E (OmF F E.P) x) (ho : bG2 x.c x.nv = true) {L : List Sh} {cells : List Value} (hfit : aK1 (cr6 w) L cells) (hb : x.c.blks = a02 L 0) (hmt : x.c.mt = x.c.blks.length)
 {us : List Value} (hus : ∀ β ω, VRs β ω (bg4 L 0 0) cells → VRs β ω x.c.args us) {e : SX} (he : ad0 (K1 x.c x.nv x.c.args x.c.heap) = some (e, .obool (.cb true))) (hd : dB (bg7 F E.P w L cells) e = true) :
 Calls E.P x.f us.toArray w (fun e w' => e = .returned (.bool true) ∧ RowKit.Below w.heap.size w w') := by
 obtain ⟨h', hh⟩ := aD4 he hd
 obtain ⟨hn, hwm, F3⟩ := x.c.heap_ok (b57 ho).lt
 have hl := af4 hfit
 have hω : ∀ (i : Nat) s v, L[i]? = some s → cells[i]? = some v → (bg7 F E.P w L cells).w i = ce4 w s v := fun i s v h1 h2 => by
  show ce4 w (L.getD i (.col .bool)) (cells.getD i (.bool false)) = _
  rw [List.getD_eq_getElem?_getD, h1, List.getD_eq_getElem?_getD, h2]; rfl
 have hr : HR (fun b => ((a30 L cells)[b]?).getD none) (bg7 F E.P w L cells) (· < w.heap.size) w x.c.heap w :=
  cr9 hfit hω (fun _ => rfl) (by rw [hn, hb]) (by rw [hwm, hmt, hb]) (fun b => by rw [F3, hb])
 have hv := hus _ _ (bI2 (β := fun b => ((a30 L cells)[b]?).getD none) (ω := bg7 F E.P w L cells) (n := 0) (b := 0) hfit (fun i s v h1 h2 => by rw [Nat.zero_add]; exact hω i s v h1 h2) (fun j y hy => by
   show ((a30 L cells)[0 + j]?).getD none = y
   rw [Nat.zero_add, hy]; rfl))
 refine Calls.mono (hx _ ⟨rfl, fun _ => rfl⟩ _ _ _ _ hh (· < w.heap.size) w _ w us hr hv) ?_
 rintro e' w' ⟨u, β', rfl, h1, h3, _⟩
 exact ⟨by rw [show u = .bool true from h1], h3.os, h3.tape, h3.out, h3.size, h3.keep⟩
end
end Go.Ev
