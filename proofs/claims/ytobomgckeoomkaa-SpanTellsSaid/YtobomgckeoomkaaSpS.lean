/- What an operation of two spans tells has what it tells of two of their numbers. -/
import Derived.Test.YtobomgckeoomkaaSpR
import Derived.Test.YtobomgckeoomkaaSpJ
set_option linter.unusedVariables false
set_option linter.unusedSimpArgs false
set_option maxRecDepth 10000
open Go Go.Im
namespace S
theorem has_top {n : Int} (h : Rg n) : Has (-9223372036854775808) 9223372036854775807 n = true := by rw [hasI]; exact h
theorem Rg.btw {x y z : Int} (h : Q.Btw x y z) (hx : Rg x) (hz : Rg z) : Rg y := by simp only [Rg, Q.Btw] at *; omega
theorem has_four {f : Int → Int → Int} {a b c d p q : Int} (h : Q.Btw (f a q) (f p q) (f b q)) (h1 : Q.Btw (f a c) (f a q) (f a d)) (h2 : Q.Btw (f b c) (f b q) (f b d)) :
    Has (J4_0 (f a c) (f a d) (f b c) (f b d)) (J4_1 (f a c) (f a d) (f b c) (f b d)) (f p q) = true := by
  rw [hasI, j4_0, j4_1]
  exact Q.four h h1 h2
/-- Ends, with a check of each. -/
theorem has_ends {n1 : Int → Int → Bool} {n0 f : Int → Int → Int} {a b c d p q : Int} (hr : ∀ x y, Rg (n0 x y)) (hn : ∀ x y, n1 x y = true → (x = a ∨ x = b) → (y = c ∨ y = d) → n0 x y = f x y ∧ Rg (f x y)) (hp : Rg (f p q) → n0 p q = f p q)
    (h : Q.Btw (f a q) (f p q) (f b q)) (h1 : Q.Btw (f a c) (f a q) (f a d)) (h2 : Q.Btw (f b c) (f b q) (f b d)) :
    Has (bif !n1 a c then (-9223372036854775808) else (bif !n1 a d then (-9223372036854775808) else (bif !n1 b c then (-9223372036854775808) else (bif !n1 b d then (-9223372036854775808) else J4_0 (n0 a c) (n0 a d) (n0 b c) (n0 b d)))))
      (bif !n1 a c then 9223372036854775807 else (bif !n1 a d then 9223372036854775807 else (bif !n1 b c then 9223372036854775807 else (bif !n1 b d then 9223372036854775807 else J4_1 (n0 a c) (n0 a d) (n0 b c) (n0 b d))))) (n0 p q) = true := by
  cases e1 : n1 a c with
  | false => exact has_top (hr p q)
  | true =>
    cases e2 : n1 a d with
    | false => exact has_top (hr p q)
    | true =>
      cases e3 : n1 b c with
      | false => exact has_top (hr p q)
      | true =>
        cases e4 : n1 b d with
        | false => exact has_top (hr p q)
        | true =>
          obtain ⟨g1, r1⟩ := hn a c e1 (.inl rfl) (.inl rfl)
          obtain ⟨g2, r2⟩ := hn a d e2 (.inl rfl) (.inr rfl)
          obtain ⟨g3, r3⟩ := hn b c e3 (.inr rfl) (.inl rfl)
          obtain ⟨g4, r4⟩ := hn b d e4 (.inr rfl) (.inr rfl)
          have hpq : Rg (f p q) := Rg.btw h (Rg.btw h1 r1 r2) (Rg.btw h2 r3 r4)
          simp only [Bool.not_true, cond_false, g1, g2, g3, g4, hp hpq]
          exact has_four h h1 h2
variable {a b c d p q : Int}
theorem has_add (ra : Rg a) (rb : Rg b) (rc : Rg c) (rd : Rg d) (hp : a ≤ p ∧ p ≤ b) (hq : c ≤ q ∧ q ≤ d) : Has (eadd_0 a b c d) (eadd_1 a b c d) (nadd_0 p q) = true :=
  has_ends (n1 := nadd_1) (n0 := nadd_0) (f := fun x y => x + y) (fun x y => wI_rg _) (fun x y h hx hy => by
    have h' := (nadd1 (by rcases hx with rfl | rfl <;> assumption) (by rcases hy with rfl | rfl <;> assumption)).1 h
    exact ⟨wI_id h'.1 h'.2, h'⟩) (fun h => wI_id h.1 h.2) (.of_le (by omega) (by omega)) (.of_le (by omega) (by omega)) (.of_le (by omega) (by omega))
theorem has_sub (ra : Rg a) (rb : Rg b) (rc : Rg c) (rd : Rg d) (hp : a ≤ p ∧ p ≤ b) (hq : c ≤ q ∧ q ≤ d) : Has (esub_0 a b c d) (esub_1 a b c d) (nsub_0 p q) = true :=
  has_ends (n1 := nsub_1) (n0 := nsub_0) (f := fun x y => x - y) (fun x y => wI_rg _) (fun x y h hx hy => by
    have h' := (nsub1 (by rcases hx with rfl | rfl <;> assumption) (by rcases hy with rfl | rfl <;> assumption)).1 h
    exact ⟨wI_id h'.1 h'.2, h'⟩) (fun h => wI_id h.1 h.2) (.of_le (by omega) (by omega)) (.of_ge (by omega) (by omega)) (.of_ge (by omega) (by omega))
theorem has_mul (ra : Rg a) (rb : Rg b) (rc : Rg c) (rd : Rg d) (hp : a ≤ p ∧ p ≤ b) (hq : c ≤ q ∧ q ≤ d) : Has (emul_0 a b c d) (emul_1 a b c d) (nmul_0 p q) = true :=
  has_ends (n1 := nmul_1) (n0 := nmul_0) (f := fun x y => x * y) (fun x y => wI_rg _) (fun x y h hx hy => by
    have h' := (nmul1 (by rcases hx with rfl | rfl <;> assumption) (by rcases hy with rfl | rfl <;> assumption)).1 h
    exact ⟨wI_id h'.1 h'.2, h'⟩) (fun h => wI_id h.1 h.2) (Q.mul_l hp.1 hp.2) (Q.mul_r hq.1 hq.2) (Q.mul_r hq.1 hq.2)
theorem nright_eq {x y : Int} (h : 0 ≤ y) (h' : y ≤ 63) : nright_0 x y = x / 2 ^ y.toNat := by
  have e : min (Int.toNat (IntKind.wrap .u64 y)) 64 = y.toNat := by rw [wU]; omega
  have e' : nright_0 x y = Int.fdiv x (2 ^ min (Int.toNat (IntKind.wrap .u64 y)) 64) := rfl
  rw [e', e]
  exact Int.fdiv_eq_ediv_of_nonneg _ (Int.le_of_lt (Int.pow_pos (by decide)))
theorem has_right (hp : a ≤ p ∧ p ≤ b) (hq : c ≤ q ∧ q ≤ d) (hc : 0 ≤ c) (hd : d ≤ 63) : Has (eright_0 a b c d) (eright_1 a b c d) (nright_0 p q) = true := by
  have e0 : eright_0 a b c d = J4_0 (nright_0 a c) (nright_0 a d) (nright_0 b c) (nright_0 b d) := rfl
  have e1 : eright_1 a b c d = J4_1 (nright_0 a c) (nright_0 a d) (nright_0 b c) (nright_0 b d) := rfl
  rw [e0, e1]
  simp only [nright_eq (x := a) (y := c) hc (by omega), nright_eq (x := a) (y := d) (by omega) hd, nright_eq (x := b) (y := c) hc (by omega), nright_eq (x := b) (y := d) (by omega) hd, nright_eq (x := p) (y := q) (by omega) (by omega)]
  exact has_four (f := fun x y => x / 2 ^ y.toNat) (Q.shr_l hp.1 hp.2) (Q.shr_r (by omega) (by omega)) (Q.shr_r (by omega) (by omega))
theorem q_eq {x y : Int} (h : Rg x) (h' : ¬ (x = -9223372036854775808 ∧ y = -1)) : S.q x y = x.tdiv y := by
  have hb := Q.tdiv_le x y
  refine wI_id ?_ ?_
  · simp only [Rg] at h; omega
  · simp only [Rg] at h
    by_cases hx : x = -9223372036854775808
    · subst hx
      by_cases h1 : y = 1
      · subst h1; rw [Int.tdiv_one]; omega
      · have h2 : y ≠ -1 := fun e => h' ⟨rfl, e⟩
        have e : (Int.tdiv (-9223372036854775808) y).natAbs = 9223372036854775808 / y.natAbs := by rw [Int.natAbs_tdiv]; rfl
        by_cases h3 : y = 0
        · subst h3; decide
        · have : 9223372036854775808 / y.natAbs ≤ 9223372036854775808 / 2 := Nat.div_le_div_left (by omega) (by decide)
          omega
    · omega
theorem has_quot (ra : Rg a) (rb : Rg b) (hp : a ≤ p ∧ p ≤ b) (hq : c ≤ q ∧ q ≤ d) (hs : 0 < c ∨ d < 0) : Has (quot_0 a b c d) (quot_1 a b c d) (S.q p q) = true := by
  have rp : Rg p := by simp only [Rg] at *; omega
  simp only [quot_0, quot_1, bif_f (empF.2 (show c ≤ d by omega))]
  cases h0 : (bif Has a b (-9223372036854775808) then Has c d (-1) else false) with
  | true => exact has_top (wI_rg _)
  | false =>
    have hn : ∀ x y, a ≤ x → x ≤ b → c ≤ y → y ≤ d → ¬ (x = -9223372036854775808 ∧ y = -1) := by
      rintro x y h1 h2 h3 h4 ⟨rfl, rfl⟩
      rw [hasD, hasD, decide_eq_true ⟨h1, h2⟩, decide_eq_true ⟨h3, h4⟩] at h0
      cases h0
    simp only [cond_false]
    rw [q_eq (x := a) (y := c) ra (hn _ _ (by omega) (by omega) (by omega) (by omega)), q_eq (x := a) (y := d) ra (hn _ _ (by omega) (by omega) (by omega) (by omega)),
      q_eq (x := b) (y := c) rb (hn _ _ (by omega) (by omega) (by omega) (by omega)), q_eq (x := b) (y := d) rb (hn _ _ (by omega) (by omega) (by omega) (by omega)), q_eq (x := p) (y := q) rp (hn _ _ (by omega) (by omega) (by omega) (by omega))]
    exact has_four (f := Int.tdiv) (Q.tdiv_l hp.1 hp.2 (by omega)) (Q.tdiv_r hq.1 hq.2 hs) (Q.tdiv_r hq.1 hq.2 hs)
end S
