/- Plain facts of sums, products, shifts, bits of numbers of 64 bits. -/
import Derived.Test.YtobomgckeoomkaaSpP
import Derived.Test.YtobomgckeoomkaaSpQ
import Derived.Lib.Mul64
set_option linter.unusedVariables false
set_option linter.unusedSimpArgs false
set_option maxRecDepth 100000
open Go Go.Im
namespace S
theorem nadd1 {a b : Int} (ha : Rg a) (hb : Rg b) : nadd_1 a b = true ↔ Rg (a + b) := by
  simp only [Rg] at *
  simp only [nadd_1, wI, beq_iff_eq, decide_eq_decide]
  omega
theorem nsub1 {a b : Int} (ha : Rg a) (hb : Rg b) : nsub_1 a b = true ↔ Rg (a - b) := by
  simp only [Rg] at *
  simp only [nsub_1, wI, beq_iff_eq, decide_eq_decide]
  omega
theorem size_abs {a : Int} (ha : Rg a) : size a = (a.natAbs : Int) := by
  simp only [Rg] at *
  simp only [size, wU, Bool.cond_eq_ite, decide_eq_true_eq]
  split <;> omega
theorem and32 {x : Int} (h : 0 ≤ x) (h' : x < 18446744073709551616) : IntKind.wrap .u64 ↑(BitVec.toNat (BitVec.ofInt (IntKind.bits .u64) x &&& BitVec.ofInt (IntKind.bits .u64) 4294967295)) = x % 4294967296 := by
  have e : ∀ y : Int, IntKind.wrap .u64 ↑(BitVec.toNat (BitVec.ofInt 64 y &&& BitVec.ofInt 64 4294967295)) = ((((y % 2 ^ 64).toNat &&& 4294967295 : Nat) : Nat) : Int) % 18446744073709551616 := by
    intro y
    rw [wU, BitVec.toNat_and, BitVec.toNat_ofInt]
    rfl
  have e' := e x
  have k : (x % 2 ^ 64).toNat = x.toNat := by omega
  rw [k] at e'
  have k2 : x.toNat &&& 4294967295 = x.toNat % 2 ^ 32 := by
    have := Nat.and_two_pow_sub_one_eq_mod x.toNat 32
    simpa using this
  rw [k2] at e'
  exact e'.trans (by omega)
theorem wUnat {n : Nat} (h : n < 18446744073709551616) : IntKind.wrap .u64 (n : Int) = n := by rw [wU]; omega
theorem fdiv32 {x : Int} : Int.fdiv x (2 ^ min (Int.toNat 32) (IntKind.bits .u64)) = x / 4294967296 := by
  have : (2 : Int) ^ min (Int.toNat 32) (IntKind.bits .u64) = 4294967296 := by decide
  rw [this]
  exact Int.fdiv_eq_ediv_of_nonneg _ (by decide)
theorem mul64 {x y : Nat} (hx : x < 18446744073709551616) (hy : y < 18446744073709551616) : Mul64_0 (x : Int) (y : Int) = ((x * y / 18446744073709551616 : Nat) : Int) ∧ Mul64_1 (x : Int) (y : Int) = ((x * y % 18446744073709551616 : Nat) : Int) := by
  obtain ⟨h1, h2, h3, h4⟩ := Go.Lib.mul64_hi x y hx hy
  constructor
  · have ax := and32 (x := (x : Int)) (by omega) (by omega)
    have ay := and32 (x := (y : Int)) (by omega) (by omega)
    unfold Mul64_0
    rw [ax, ay]
    simp only [fdiv32]
    have c1 : (x : Int) % 4294967296 * ((y : Int) % 4294967296) = ((x % 4294967296 * (y % 4294967296) : Nat) : Int) := by rw [Int.natCast_mul, Int.natCast_emod, Int.natCast_emod]; rfl
    have c2 : (x : Int) / 4294967296 * ((y : Int) % 4294967296) = ((x / 4294967296 * (y % 4294967296) : Nat) : Int) := by rw [Int.natCast_mul, Int.natCast_emod, Int.natCast_ediv]; rfl
    have c3 : (x : Int) % 4294967296 * ((y : Int) / 4294967296) = ((x % 4294967296 * (y / 4294967296) : Nat) : Int) := by rw [Int.natCast_mul, Int.natCast_emod, Int.natCast_ediv]; rfl
    have c4 : (x : Int) / 4294967296 * ((y : Int) / 4294967296) = ((x / 4294967296 * (y / 4294967296) : Nat) : Int) := by rw [Int.natCast_mul, Int.natCast_ediv, Int.natCast_ediv]; rfl
    have hb : x / 4294967296 * (y / 4294967296) ≤ 4294967295 * 4294967295 := Nat.mul_le_mul (by omega) (by omega)
    have hz : x * y / 18446744073709551616 < 18446744073709551616 := by
      rw [Nat.div_lt_iff_lt_mul (by decide)]
      exact Nat.mul_lt_mul_of_lt_of_le hx (Nat.le_of_lt hy) (by decide)
    rw [c1, c2, c3, c4]
    generalize x % 4294967296 * (y % 4294967296) = w0 at *
    generalize x / 4294967296 * (y % 4294967296) = w1 at *
    generalize x % 4294967296 * (y / 4294967296) = w3 at *
    generalize x / 4294967296 * (y / 4294967296) = w4 at *
    generalize x * y / 18446744073709551616 = z at *
    rw [wUnat (n := w0) (by omega), wUnat (n := w1) (by omega), wUnat (n := w3) (by omega), wUnat (n := w4) (by omega)]
    have e3 : IntKind.wrap .u64 ((w1 : Int) + (w0 : Int) / 4294967296) = ((w1 + w0 / 4294967296 : Nat) : Int) := by rw [wU]; omega
    rw [e3]
    have ht := and32 (x := ((w1 + w0 / 4294967296 : Nat) : Int)) (by omega) (by omega)
    rw [ht]
    simp only [wU]
    omega
  · simp only [Mul64_1, wU]
    rw [Int.natCast_emod, Int.natCast_mul]; rfl
theorem nmul1 {a b : Int} (ha : Rg a) (hb : Rg b) : nmul_1 a b = true ↔ Rg (a * b) := by
  have h1 := mul64 (x := a.natAbs) (y := b.natAbs) (by simp only [Rg] at ha; omega) (by simp only [Rg] at hb; omega)
  have hab : (a * b).natAbs = a.natAbs * b.natAbs := Int.natAbs_mul a b
  have sgn : (a < 0 ↔ b < 0) → 0 ≤ a * b := by
    intro h
    by_cases h0 : a < 0
    · exact Int.mul_nonneg_of_nonpos_of_nonpos (by omega) (by have := h.1 h0; omega)
    · exact Int.mul_nonneg (by omega) (by omega)
  have sgn' : ¬ (a < 0 ↔ b < 0) → a * b ≤ 0 := by
    intro h
    by_cases h0 : a < 0
    · exact Int.mul_nonpos_of_nonpos_of_nonneg (by omega) (by omega)
    · exact Int.mul_nonpos_of_nonneg_of_nonpos (by omega) (by omega)
  simp only [nmul_1, size_abs ha, size_abs hb, h1.1, h1.2]
  generalize a.natAbs * b.natAbs = m at *
  have e : (!decide (a < 0) == decide (b < 0)) = decide (¬ (a < 0 ↔ b < 0)) := by
    by_cases h0 : a < 0 <;> by_cases h0' : b < 0 <;> simp [h0, h0']
  rw [e]
  simp only [Bool.cond_eq_ite, decide_eq_true_eq, beq_iff_eq, Rg]
  by_cases hs : a < 0 ↔ b < 0
  · have := sgn hs
    rw [if_neg (by simpa using hs)]
    split
    · simp; omega
    · simp; omega
  · have := sgn' hs
    rw [if_pos hs]
    split
    · simp; omega
    · simp; omega
end S
