import Derived.Test.YthdedeijapoihaaGreatDoorE22
set_option autoImplicit false
set_option linter.unusedVariables false
set_option linter.unusedSimpArgs false
namespace Go.Ev
open Go
variable {E : Env} {ω : Opq}
def aS7 (ω : Opq) (pc : PC) : Prop := ∀ p ∈ pc, dB ω p.1 = p.2
def VC.Ok (ω : Opq) (v : VC) : Prop := aS7 ω v.pc → dB ω v.cl = true
theorem aJ1 (a b : Bool) : bj0 a b = (a == b) := by cases a <;> cases b <;> rfl
theorem aJ2 (a b : Int) : decide (b ≤ a) = !decide (a < b) := by
 rw [Bool.eq_iff_iff]; simp
theorem b23 (e : SX) : dB ω e = (dB ω (aw6 e).1 == (aw6 e).2) := by
 unfold aw6
 split
 · rename_i p l
   unfold bO7
   split <;> simp only [dB, den, j3, z9, Val.toB, ax0, aZ3, beq_true, beq_false, Bool.not_not]
   · exact aJ2 _ _
   · exact aJ2 _ _
 · simp
theorem b24 {e : SX} {b : Bool} : ∀ {pc : PC}, aS7 ω pc → bD5 e pc = some b → dB ω e = b
 | [], _, h => by cases h
 | p :: r, hp, h => by
   simp only [bD5] at h
   cases hc : SX.beq e p.1 with
   | true =>
     rw [hc] at h
     simp only [cond_true, Option.some.injEq] at h
     rw [SX.beq_eq _ _ hc, ← h]
     exact hp p (by simp)
   | false => rw [hc] at h; exact b24 (fun q hq => hp q (by simp [hq])) h
theorem bH7 {c : SX × Bool} {b : Bool} {pc : PC} (hp : aS7 ω pc) (h : bV3 c pc = some b) : (dB ω c.1 == c.2) = b := by
 unfold bV3 at h
 split at h
 · rename_i b0 h0
   simp only [Option.some.injEq] at h
   rw [b24 hp h0, ← h, aJ1]
 · cases h
theorem ce5 {a b : Option Bool} {x y r : Bool} (ha : ∀ z, a = some z → x = z) (hb : ∀ z, b = some z → y = z) (h : cr0 a b = some r) : (x && y) = r := by
 unfold cr0 at h
 split at h
 · rw [ha _ rfl]; simpa using h
 · rw [ha _ rfl, hb _ h]; simp
 · split at h
   · rw [hb _ rfl]; simpa using h
   · cases h
theorem cr8 {a b : Option Bool} {x y r : Bool} (ha : ∀ z, a = some z → x = z) (hb : ∀ z, b = some z → y = z) (h : orO a b = some r) : (x || y) = r := by
 unfold orO at h
 split at h
 · rw [ha _ rfl]; simpa using h
 · rw [ha _ rfl, hb _ h]; simp
 · split at h
   · rw [hb _ rfl]; simpa using h
   · cases h
theorem bH8 (a b : SX) : dB ω (.op .or [a, b]) = (dB ω a || dB ω b) := rfl
theorem az0 (a : SX) : dB ω (.op .not [a]) = !dB ω a := rfl
theorem aJ3 (c a b : SX) : dB ω (.op .ite [c, a, b]) = bif dB ω c then dB ω a else dB ω b := by
 show Val.toB (bif (den ω c).toB then den ω a else den ω b) = _
 unfold dB
 cases (den ω c).toB <;> rfl
theorem B8 {pc : PC} (hp : aS7 ω pc) : ∀ (n : Nat) (e : SX) (b : Bool), a94 pc n e = some b → dB ω e = b
 | 0, e, b, h => by cases h
 | n + 1, e, b, h => by
   have ih := B8 hp n
   have h : bj1 pc (a94 pc n) e = some b := h
   unfold bj1 at h
   split at h
   · rename_i b0 h0
     simp only [Option.some.injEq] at h; subst h
     rw [b23 e]; exact bH7 hp h0
   · unfold bO9 at h
     split at h
     · simp only [Option.some.injEq] at h; subst h; rfl
     · rename_i p l
       unfold bO8 at h
       split at h
       · rename_i a
         rw [az0]
         unfold cv8 at h
         split at h
         · rename_i b0 h0
           simp only [Option.some.injEq] at h
           rw [ih _ _ h0, h]
         · cases h
       · rw [Q6]; exact ce5 (ih _) (ih _) h
       · rw [bH8]; exact cr8 (ih _) (ih _) h
       · rw [aJ3]
         unfold cv9 at h
         split at h
         · rename_i h0; rw [ih _ _ h0]; exact ih _ _ h
         · rename_i h0; rw [ih _ _ h0]; exact ih _ _ h
         · cases h
       · exact bq0 h
     · cases h
theorem K5 {a b : PC} (ha : aS7 ω a) (hb : aS7 ω b) : aS7 ω (a ++ b) := by
 intro p hp
 rcases List.mem_append.1 hp with h | h
 · exact ha p h
 · exact hb p h
theorem X2 : aS7 ω [] := fun p hp => by cases hp
theorem ab2 : ∀ (n : Nat) (e : SX) (b : Bool), dB ω e = b → aS7 ω (aF2 n e b)
 | 0, e, b, h => X2
 | n + 1, e, b, h => by
   have ih := ab2 n
   show aS7 ω (bj3 (aF2 n) e b)
   unfold bj3
   intro p hp
   rcases List.mem_cons.1 hp with rfl | hp
   · unfold cb7
     have := b23 (ω := ω) e
     rw [h] at this
     rw [aJ1]
     show dB ω (aw6 e).1 = ((aw6 e).2 == b)
     rw [this]
     cases dB ω (aw6 e).1 <;> cases (aw6 e).2 <;> rfl
   · refine (?_ : aS7 ω (bj2 (aF2 n) e b)) p hp
     unfold bj2
     split
     · rename_i q l
       unfold bP0
       split
       · rename_i a
         refine ih _ _ ?_
         rw [az0] at h; rw [← h, Bool.not_not]
       · cases b with
         | true => rw [Q6, Bool.and_eq_true] at h; exact K5 (ih _ _ h.1) (ih _ _ h.2)
         | false => exact X2
       · cases b with
         | true => exact X2
         | false => rw [bH8, Bool.or_eq_false_iff] at h; exact K5 (ih _ _ h.1) (ih _ _ h.2)
       · rename_i c x
         cases b with
         | true =>
           rw [aJ3] at h
           cases hc : dB ω c with
           | true => rw [hc] at h; exact K5 (ih _ _ hc) (ih _ _ h)
           | false => rw [hc] at h; cases h
         | false => exact X2
       · rename_i c y _
         cases b with
         | true => exact X2
         | false =>
           rw [aJ3] at h
           cases hc : dB ω c with
           | true => rw [hc] at h; cases h
           | false => rw [hc] at h; exact K5 (ih _ _ hc) (ih _ _ h)
       · exact X2
     · exact X2
theorem bq7 {pc : PC} (hp : aS7 ω pc) : ∀ (n : Nat) (e : SX), dB ω (red pc n e) = dB ω e
 | 0, e => rfl
 | n + 1, e => by
   have : red pc (n + 1) e = cr1 pc (red pc n) e := rfl
   rw [this]
   unfold cr1
   split
   · rename_i p l
     have ih := bq7 hp n
     unfold cw0
     split
     · rename_i c a b
       split
       · rename_i h; rw [ih, aJ3, B8 hp 8 c _ h]; rfl
       · rename_i h; rw [ih, aJ3, B8 hp 8 c _ h]; rfl
       · rfl
     · rename_i a b
       split
       · rename_i h; rw [ih, Q6, B8 hp 8 a _ h]; rfl
       · split
         · rename_i h; rw [ih, Q6, B8 hp 8 b _ h, Bool.and_true]
         · rfl
     · rename_i a b
       split
       · rename_i h; rw [ih, bH8, B8 hp 8 a _ h]; rfl
       · split
         · rename_i h; rw [ih, bH8, B8 hp 8 b _ h, Bool.or_false]
         · rfl
     · rename_i a; rw [az0, az0, ih]
     · rfl
   · rfl
theorem bq8 (c a b : SX) : den ω (.op .ite [c, a, b]) = bif dB ω c then den ω a else den ω b := rfl
theorem aS8 {pc : PC} (hp : aS7 ω pc) : ∀ (n : Nat) (e : SX), den ω (cm8 pc n e) = den ω e
 | 0, e => rfl
 | n + 1, e => by
   have : cm8 pc (n + 1) e = bV4 pc (cm8 pc n) e := rfl
   rw [this]
   unfold bV4
   split
   · rename_i p l
     unfold cb8
     split
     · rename_i c a b
       split
       · rename_i h; rw [aS8 hp n, bq8, B8 hp 8 c _ h]; rfl
       · rename_i h; rw [aS8 hp n, bq8, B8 hp 8 c _ h]; rfl
       · rfl
     · rfl
   · rfl
def TPT (ω : Opq) (r : Nat × List Val) (t : RPT) : Prop := ∃ pc, aS7 ω pc ∧ g8 (t pc) ω = some r
theorem aJ4 {pc : PC} : ∀ {ks : List RPT} {n : Nat} {x : VT}, (aP5 pc ks)[n]? = some x → ∃ k, ks[n]? = some k ∧ x = k pc
 | [], n, x, h => by simp [aP5] at h
 | k :: r, 0, x, h => by simp only [aP5, List.getElem?_cons_zero, Option.some.injEq] at h; exact ⟨k, rfl, h.symm⟩
 | k :: r, n + 1, x, h => by
   simp only [aP5, List.getElem?_cons_succ] at h
   obtain ⟨k', h1, h2⟩ := aJ4 h
   exact ⟨k', by simpa using h1, h2⟩
theorem ab3 (ω : Opq) (r : Nat × List Val) : AlgOk aw7 (TPT ω r) ω := by
 refine ⟨fun h => ?_, fun l f h => ?_, fun e x y h => ?_, fun e x h => ?_, fun hd body ks h => ?_⟩
 · obtain ⟨pc, _, h⟩ := h
   simp [aw7, g8] at h
 · obtain ⟨pc, hp, h⟩ := h
   have h : g8 (bV6 l f pc) ω = some r := h
   unfold bV6 at h
   split at h
   · intro x hx
     simp only [List.mem_singleton] at hx
     subst hx
     exact ⟨pc, hp, h⟩
   · rename_i a b
     simp only [g8] at h
     split at h
     · rename_i he
       intro x hx
       simp only [List.mem_cons, List.not_mem_nil, or_false] at hx
       rcases hx with rfl | rfl
       · exact ⟨pc, hp, h⟩
       · exact ⟨pc, hp, he ▸ h⟩
     · cases h
   · simp [g8] at h
 · obtain ⟨pc, hp, h⟩ := h
   have h : g8 (bV5 e x y pc (a94 pc 8 e)) ω = some r := h
   unfold bV5 at h
   split at h
   · rename_i hk
     have := B8 hp 8 e _ hk
     exact ⟨fun _ => ⟨pc, hp, h⟩, fun hf => by rw [this] at hf; cases hf⟩
   · rename_i hk
     have := B8 hp 8 e _ hk
     exact ⟨fun hf => by (rw [this] at hf; cases hf), fun _ => ⟨pc, hp, h⟩⟩
   · simp only [g8, bq7 hp] at h
     refine ⟨fun hd => ?_, fun hd => ?_⟩
     · rw [if_pos hd] at h
       exact ⟨_, K5 (ab2 8 e _ hd) hp, h⟩
     · rw [if_neg (by rw [hd]; simp)] at h
       exact ⟨_, K5 (ab2 8 e _ hd) hp, h⟩
 · obtain ⟨pc, hp, h⟩ := h
   have h : g8 (bj4 e x pc (a94 pc 8 e)) ω = some r := h
   unfold bj4 at h
   split at h
   · rename_i hk
     exact ⟨B8 hp 8 e _ hk, pc, hp, h⟩
   · simp only [g8, bq7 hp] at h
     split at h
     · rename_i hd
       exact ⟨hd, _, K5 (ab2 8 e _ hd) hp, h⟩
     · cases h
 · obtain ⟨pc, hp, h⟩ := h
   have h : g8 (.loop hd body (aP5 pc ks)) ω = some r := h
   simp only [g8] at h
   split at h
   · rename_i q hq
     split at h
     · rename_i hf
       obtain ⟨x, h1, h2⟩ := at1 h
       obtain ⟨k, h3, rfl⟩ := aJ4 h1
       exact ⟨q, k, hq, hf, h3, pc, hp, h2⟩
     · cases h
   · cases h
end Go.Ev
