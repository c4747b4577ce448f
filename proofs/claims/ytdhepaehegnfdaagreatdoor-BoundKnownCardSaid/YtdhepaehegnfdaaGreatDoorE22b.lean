import Derived.Test.YtdhepaehegnfdaaGreatDoorE22
set_option linter.unusedVariables false
set_option linter.unusedSimpArgs false
namespace Go.Ev
open Go
variable {E : Env} {ω : Opq}
def b40 (ω : Opq) (pc : PC) : Prop := ∀ p ∈ pc, dB ω p.1 = p.2
def VC.Ok (ω : Opq) (v : VC) : Prop := b40 ω v.pc → dB ω v.cl = true
theorem aT8 (a b : Bool) : bv7 a b = (a == b) := by cases a <;> cases b <;> rfl
theorem aT9 (a b : Int) : decide (b ≤ a) = !decide (a < b) := by
 rw [Bool.eq_iff_iff]; simp
theorem be2 (e : SX) : dB ω e = (dB ω (aG1 e).1 == (aG1 e).2) := by
 unfold aG1
 split
 · rename_i p l
   unfold c21
   split <;> simp only [dB, den, k5, A1, Val.toB, aG5, bb2, beq_true, beq_false, Bool.not_not]
   · exact aT9 _ _
   · exact aT9 _ _
 · simp
theorem be3 {e : SX} {b : Bool} : ∀ {pc : PC}, b40 ω pc → bQ6 e pc = some b → dB ω e = b
 | [], _, h => by cases h
 | p :: r, hp, h => by
   simp only [bQ6] at h
   cases hc : SX.beq e p.1 with
   | true =>
     rw [hc] at h
     simp only [cond_true, Option.some.injEq] at h
     rw [SX.beq_eq _ _ hc, ← h]
     exact hp p (by simp)
   | false => rw [hc] at h; exact be3 (fun q hq => hp q (by simp [hq])) h
theorem bU8 {c : SX × Bool} {b : Bool} {pc : PC} (hp : b40 ω pc) (h : c76 c pc = some b) : (dB ω c.1 == c.2) = b := by
 unfold c76 at h
 split at h
 · rename_i b0 h0
   simp only [Option.some.injEq] at h
   rw [be3 hp h0, ← h, aT8]
 · cases h
theorem cp3 {a b : Option Bool} {x y r : Bool} (ha : ∀ z, a = some z → x = z) (hb : ∀ z, b = some z → y = z) (h : cA4 a b = some r) : (x && y) = r := by
 unfold cA4 at h
 split at h
 · rw [ha _ rfl]; simpa using h
 · rw [ha _ rfl, hb _ h]; simp
 · split at h
   · rw [hb _ rfl]; simpa using h
   · cases h
theorem cB2 {a b : Option Bool} {x y r : Bool} (ha : ∀ z, a = some z → x = z) (hb : ∀ z, b = some z → y = z) (h : orO a b = some r) : (x || y) = r := by
 unfold orO at h
 split at h
 · rw [ha _ rfl]; simpa using h
 · rw [ha _ rfl, hb _ h]; simp
 · split at h
   · rw [hb _ rfl]; simpa using h
   · cases h
theorem bU9 (a b : SX) : dB ω (.op .or [a, b]) = (dB ω a || dB ω b) := rfl
theorem aI5 (a : SX) : dB ω (.op .not [a]) = !dB ω a := rfl
theorem aU0 (c a b : SX) : dB ω (.op .ite [c, a, b]) = bif dB ω c then dB ω a else dB ω b := by
 show Val.toB (bif (den ω c).toB then den ω a else den ω b) = _
 unfold dB
 cases (den ω c).toB <;> rfl
theorem D0 {pc : PC} (hp : b40 ω pc) : ∀ (n : Nat) (e : SX) (b : Bool), ag3 pc n e = some b → dB ω e = b
 | 0, e, b, h => by cases h
 | n + 1, e, b, h => by
   have ih := D0 hp n
   have h : bv8 pc (ag3 pc n) e = some b := h
   unfold bv8 at h
   split at h
   · rename_i b0 h0
     simp only [Option.some.injEq] at h; subst h
     rw [be2 e]; exact bU8 hp h0
   · unfold c23 at h
     split at h
     · simp only [Option.some.injEq] at h; subst h; rfl
     · rename_i p l
       unfold c22 at h
       split at h
       · rename_i a
         rw [aI5]
         unfold cF0 at h
         split at h
         · rename_i b0 h0
           simp only [Option.some.injEq] at h
           rw [ih _ _ h0, h]
         · cases h
       · rw [U1]; exact cp3 (ih _) (ih _) h
       · rw [bU9]; exact cB2 (ih _) (ih _) h
       · rw [aU0]
         unfold cF1 at h
         split at h
         · rename_i h0; rw [ih _ _ h0]; exact ih _ _ h
         · rename_i h0; rw [ih _ _ h0]; exact ih _ _ h
         · cases h
       · exact bC7 h
     · cases h
theorem N5 {a b : PC} (ha : b40 ω a) (hb : b40 ω b) : b40 ω (a ++ b) := by
 intro p hp
 rcases List.mem_append.1 hp with h | h
 · exact ha p h
 · exact hb p h
theorem W6 : b40 ω [] := fun p hp => by cases hp
theorem ai2 : ∀ (n : Nat) (e : SX) (b : Bool), dB ω e = b → b40 ω (aP9 n e b)
 | 0, e, b, h => W6
 | n + 1, e, b, h => by
   have ih := ai2 n
   show b40 ω (bw0 (aP9 n) e b)
   unfold bw0
   intro p hp
   rcases List.mem_cons.1 hp with rfl | hp
   · unfold cm5
     have := be2 (ω := ω) e
     rw [h] at this
     rw [aT8]
     show dB ω (aG1 e).1 = ((aG1 e).2 == b)
     rw [this]
     cases dB ω (aG1 e).1 <;> cases (aG1 e).2 <;> rfl
   · refine (?_ : b40 ω (bv9 (aP9 n) e b)) p hp
     unfold bv9
     split
     · rename_i q l
       unfold c24
       split
       · rename_i a
         refine ih _ _ ?_
         rw [aI5] at h; rw [← h, Bool.not_not]
       · cases b with
         | true => rw [U1, Bool.and_eq_true] at h; exact N5 (ih _ _ h.1) (ih _ _ h.2)
         | false => exact W6
       · cases b with
         | true => exact W6
         | false => rw [bU9, Bool.or_eq_false_iff] at h; exact N5 (ih _ _ h.1) (ih _ _ h.2)
       · rename_i c x
         cases b with
         | true =>
           rw [aU0] at h
           cases hc : dB ω c with
           | true => rw [hc] at h; exact N5 (ih _ _ hc) (ih _ _ h)
           | false => rw [hc] at h; cases h
         | false => exact W6
       · rename_i c y _
         cases b with
         | true => exact W6
         | false =>
           rw [aU0] at h
           cases hc : dB ω c with
           | true => rw [hc] at h; cases h
           | false => rw [hc] at h; exact N5 (ih _ _ hc) (ih _ _ h)
       · exact W6
     · exact W6
theorem bD4 {pc : PC} (hp : b40 ω pc) : ∀ (n : Nat) (e : SX), dB ω (red pc n e) = dB ω e
 | 0, e => rfl
 | n + 1, e => by
   have : red pc (n + 1) e = cA5 pc (red pc n) e := rfl
   rw [this]
   unfold cA5
   split
   · rename_i p l
     have ih := bD4 hp n
     unfold cF2
     split
     · rename_i c a b
       split
       · rename_i h; rw [ih, aU0, D0 hp 8 c _ h]; rfl
       · rename_i h; rw [ih, aU0, D0 hp 8 c _ h]; rfl
       · rfl
     · rename_i a b
       split
       · rename_i h; rw [ih, U1, D0 hp 8 a _ h]; rfl
       · split
         · rename_i h; rw [ih, U1, D0 hp 8 b _ h, Bool.and_true]
         · rfl
     · rename_i a b
       split
       · rename_i h; rw [ih, bU9, D0 hp 8 a _ h]; rfl
       · split
         · rename_i h; rw [ih, bU9, D0 hp 8 b _ h, Bool.or_false]
         · rfl
     · rename_i a; rw [aI5, aI5, ih]
     · rfl
   · rfl
theorem bD5 (c a b : SX) : den ω (.op .ite [c, a, b]) = bif dB ω c then den ω a else den ω b := rfl
theorem b41 {pc : PC} (hp : b40 ω pc) : ∀ (n : Nat) (e : SX), den ω (cw6 pc n e) = den ω e
 | 0, e => rfl
 | n + 1, e => by
   have : cw6 pc (n + 1) e = c77 pc (cw6 pc n) e := rfl
   rw [this]
   unfold c77
   split
   · rename_i p l
     unfold cm6
     split
     · rename_i c a b
       split
       · rename_i h; rw [b41 hp n, bD5, D0 hp 8 c _ h]; rfl
       · rename_i h; rw [b41 hp n, bD5, D0 hp 8 c _ h]; rfl
       · rfl
     · rfl
   · rfl
def TPT (ω : Opq) (r : Nat × List Val) (t : RPT) : Prop := ∃ pc, b40 ω pc ∧ j3 (t pc) ω = some r
theorem aU1 {pc : PC} : ∀ {ks : List RPT} {n : Nat} {x : VT}, (b08 pc ks)[n]? = some x → ∃ k, ks[n]? = some k ∧ x = k pc
 | [], n, x, h => by simp [b08] at h
 | k :: r, 0, x, h => by simp only [b08, List.getElem?_cons_zero, Option.some.injEq] at h; exact ⟨k, rfl, h.symm⟩
 | k :: r, n + 1, x, h => by
   simp only [b08, List.getElem?_cons_succ] at h
   obtain ⟨k', h1, h2⟩ := aU1 h
   exact ⟨k', by simpa using h1, h2⟩
theorem ai3 (ω : Opq) (r : Nat × List Val) : AlgOk aG2 (TPT ω r) ω := by
 refine ⟨fun h => ?_, fun l f h => ?_, fun e x y h => ?_, fun e x h => ?_, fun hd body ks h => ?_⟩
 · obtain ⟨pc, _, h⟩ := h
   simp [aG2, j3] at h
 · obtain ⟨pc, hp, h⟩ := h
   have h : j3 (c79 l f pc) ω = some r := h
   unfold c79 at h
   split at h
   · intro x hx
     simp only [List.mem_singleton] at hx
     subst hx
     exact ⟨pc, hp, h⟩
   · rename_i a b
     simp only [j3] at h
     split at h
     · rename_i he
       intro x hx
       simp only [List.mem_cons, List.not_mem_nil, or_false] at hx
       rcases hx with rfl | rfl
       · exact ⟨pc, hp, h⟩
       · exact ⟨pc, hp, he ▸ h⟩
     · cases h
   · simp [j3] at h
 · obtain ⟨pc, hp, h⟩ := h
   have h : j3 (c78 e x y pc (ag3 pc 8 e)) ω = some r := h
   unfold c78 at h
   split at h
   · rename_i hk
     have := D0 hp 8 e _ hk
     exact ⟨fun _ => ⟨pc, hp, h⟩, fun hf => by rw [this] at hf; cases hf⟩
   · rename_i hk
     have := D0 hp 8 e _ hk
     exact ⟨fun hf => by (rw [this] at hf; cases hf), fun _ => ⟨pc, hp, h⟩⟩
   · simp only [j3, bD4 hp] at h
     refine ⟨fun hd => ?_, fun hd => ?_⟩
     · rw [if_pos hd] at h
       exact ⟨_, N5 (ai2 8 e _ hd) hp, h⟩
     · rw [if_neg (by rw [hd]; simp)] at h
       exact ⟨_, N5 (ai2 8 e _ hd) hp, h⟩
 · obtain ⟨pc, hp, h⟩ := h
   have h : j3 (bw1 e x pc (ag3 pc 8 e)) ω = some r := h
   unfold bw1 at h
   split at h
   · rename_i hk
     exact ⟨D0 hp 8 e _ hk, pc, hp, h⟩
   · simp only [j3, bD4 hp] at h
     split at h
     · rename_i hd
       exact ⟨hd, _, N5 (ai2 8 e _ hd) hp, h⟩
     · cases h
 · obtain ⟨pc, hp, h⟩ := h
   have h : j3 (.loop hd body (b08 pc ks)) ω = some r := h
   simp only [j3] at h
   split at h
   · rename_i q hq
     split at h
     · rename_i hf
       obtain ⟨x, h1, h2⟩ := aC1 h
       obtain ⟨k, h3, rfl⟩ := aU1 h1
       exact ⟨q, k, hq, hf, h3, pc, hp, h2⟩
     · cases h
   · cases h
end Go.Ev
