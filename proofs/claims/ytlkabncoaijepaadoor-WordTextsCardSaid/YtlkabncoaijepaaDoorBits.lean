import Derived.Laws.BitsLemmas
import Derived.RowKit
namespace Go.Proofs.YtlkabncoaijepaaDoor.Bits
open Go.RowKit
set_option linter.unusedVariables false


theorem wrap_in {a : Int} (h0 : -9223372036854775808 ≤ a) (h1 : a ≤ 9223372036854775807) : wrap64 a = a := by unfold wrap64; omega
theorem wrap_range (a : Int) : -9223372036854775808 ≤ wrap64 a ∧ wrap64 a ≤ 9223372036854775807 := by unfold wrap64; omega
theorem wrap_add_l (a b : Int) : wrap64 (wrap64 a + b) = wrap64 (a + b) := by unfold wrap64; omega
theorem wrap_add_r (a b : Int) : wrap64 (a + wrap64 b) = wrap64 (a + b) := by unfold wrap64; omega
theorem wrap_sub_l (a b : Int) : wrap64 (wrap64 a - b) = wrap64 (a - b) := by unfold wrap64; omega
theorem wrap_mod (a : Int) : ∃ q, wrap64 a = a + 18446744073709551616 * q := by
  refine ⟨-((a + 9223372036854775808) / 18446744073709551616), ?_⟩
  unfold wrap64; omega
theorem wrap_of_mod {a b : Int} (h : ∃ q, a = b + 18446744073709551616 * q) : wrap64 a = wrap64 b := by
  obtain ⟨q, rfl⟩ := h
  unfold wrap64; omega
theorem wrap_mul_l (a b : Int) : wrap64 (wrap64 a * b) = wrap64 (a * b) := by
  obtain ⟨q, h⟩ := wrap_mod a
  refine wrap_of_mod ⟨q * b, ?_⟩
  rw [h, Int.add_mul, Int.mul_assoc]
theorem wrap_mul_r (a b : Int) : wrap64 (a * wrap64 b) = wrap64 (a * b) := by rw [Int.mul_comm, wrap_mul_l, Int.mul_comm]

theorem wrap_is (n : Int) : IntKind.i64.wrap n = wrap64 n := by rw [IntKind.wrap_i64]; rfl
/-- A number's 64 bits, and the number of 64 bits. -/
def V (a : Int) : BitVec 64 := BitVec.ofInt 64 a
def bk (v : BitVec 64) : Int := wrap64 (v.toNat : Int)
theorem V_nat (a : Int) : ((V a).toNat : Int) = a % 18446744073709551616 := by
  unfold V
  rw [BitVec.toNat_ofInt]
  have : (0 : Int) ≤ a % ((2 ^ 64 : Nat) : Int) := Int.emod_nonneg _ (by decide)
  omega
theorem bk_V {a : Int} (h0 : -9223372036854775808 ≤ a) (h1 : a ≤ 9223372036854775807) : bk (V a) = a := by
  unfold bk; rw [V_nat]; unfold wrap64; omega
theorem V_of {a : Int} {v : BitVec 64} (h : ∃ q : Int, a = (v.toNat : Int) + 18446744073709551616 * q) : V a = v := by
  apply BitVec.eq_of_toNat_eq
  have h1 := V_nat a
  have h2 := v.isLt
  obtain ⟨q, rfl⟩ := h
  omega
theorem V_bk (v : BitVec 64) : V (bk v) = v := by
  apply V_of
  refine ⟨-(((v.toNat : Int) + 9223372036854775808) / 18446744073709551616), ?_⟩
  unfold bk wrap64; omega
theorem and_is (a b : Int) : Go.bits .and .i64 a b = bk (V a &&& V b) := by
  simp only [Go.bits]; rw [wrap_is]; rfl
theorem or_is (a b : Int) : Go.bits .or .i64 a b = bk (V a ||| V b) := by
  simp only [Go.bits]; rw [wrap_is]; rfl
theorem xor_is (a b : Int) : Go.bits .xor .i64 a b = bk (V a ^^^ V b) := by
  simp only [Go.bits]; rw [wrap_is]; rfl

theorem nat_and_or (k : Nat) : ∀ m n : Nat, m < 2 ^ k → (m &&& n) + (m ||| n) = m + n := by
  induction k with
  | zero => intro m n h; have : m = 0 := by simpa using h
            subst this; simp
  | succ k ih =>
    intro m n h
    have i := ih (m / 2) (n / 2) (by rw [Nat.pow_succ] at h; omega)
    have a1 : (m &&& n) / 2 = m / 2 &&& n / 2 := Nat.and_div_two
    have o1 : (m ||| n) / 2 = m / 2 ||| n / 2 := Nat.or_div_two
    have a2 := @Nat.and_mod_two_eq_one m n
    have o2 := @Nat.or_mod_two_eq_one m n
    rw [← a1, ← o1] at i
    omega
theorem and_or (a b : Int) : wrap64 (Go.bits .and .i64 a b + Go.bits .or .i64 a b) = wrap64 (a + b) := by
  rw [and_is, or_is]
  have h := nat_and_or 64 (V a).toNat (V b).toNat (V a).isLt
  have e1 : (V a &&& V b).toNat = (V a).toNat &&& (V b).toNat := BitVec.toNat_and _ _
  have e2 : (V a ||| V b).toNat = (V a).toNat ||| (V b).toNat := BitVec.toNat_or _ _
  unfold bk
  rw [wrap_add_l, wrap_add_r, e1, e2, ← Int.natCast_add, h, Int.natCast_add, V_nat, V_nat]
  apply wrap_of_mod
  refine ⟨-(a / 18446744073709551616) - b / 18446744073709551616, ?_⟩
  have ha := Int.emod_add_mul_ediv a 18446744073709551616
  have hb := Int.emod_add_mul_ediv b 18446744073709551616
  omega
theorem xor_xor {a b : Int} (h0 : -9223372036854775808 ≤ a) (h1 : a ≤ 9223372036854775807) : Go.bits .xor .i64 (Go.bits .xor .i64 a b) b = a := by
  rw [xor_is, xor_is, V_bk, BitVec.xor_assoc, BitVec.xor_self, BitVec.xor_zero, bk_V h0 h1]
theorem allOnes_V : V (-1) = BitVec.allOnes 64 := by
  apply BitVec.eq_of_toNat_eq
  have h := V_nat (-1)
  have h2 : (2 : Nat) ^ 64 - 1 = 18446744073709551615 := by decide
  rw [BitVec.toNat_allOnes, h2]
  generalize (V (-1)).toNat = z at *
  omega
theorem not_nat (v : BitVec 64) : ((~~~ v).toNat : Int) = 18446744073709551615 - (v.toNat : Int) := by
  have h := v.isLt
  have e : (~~~ v).toNat = 18446744073709551615 - v.toNat := by rw [BitVec.toNat_not]
  generalize (~~~ v).toNat = z at *
  generalize v.toNat = x at *
  omega
theorem not_is {a : Int} (h0 : -9223372036854775808 ≤ a) (h1 : a ≤ 9223372036854775807) : Go.bits .xor .i64 (-1) a = -1 - a := by
  rw [xor_is, allOnes_V, BitVec.allOnes_xor]
  unfold bk
  rw [not_nat, V_nat]
  unfold wrap64
  omega
theorem mask (a : Int) (n : Nat) (hn : n < 63) : Go.bits .and .i64 a (2 ^ n - 1) = a % 2 ^ n := by
  rw [and_is]
  have hp : (2 : Nat) ^ n ≤ 2 ^ 62 := Nat.pow_le_pow_right (by decide) (by omega)
  have hpos : 0 < 2 ^ n := Nat.two_pow_pos n
  have hc : ((2 : Int) ^ n - 1) = ((2 ^ n - 1 : Nat) : Int) := by rw [Int.natCast_sub hpos]; simp
  have hm : (V (2 ^ n - 1)).toNat = 2 ^ n - 1 := by
    have := V_nat (2 ^ n - 1)
    rw [hc] at this
    have h2 : (2 : Nat) ^ 62 = 4611686018427387904 := by decide
    rw [hc]
    omega
  unfold bk
  rw [BitVec.toNat_and, hm, Nat.and_two_pow_sub_one_eq_mod]
  have hv := V_nat a
  have hd : (2 : Int) ^ n ∣ 18446744073709551616 := by
    refine ⟨2 ^ (64 - n), ?_⟩
    rw [← Int.pow_add, show n + (64 - n) = 64 by omega]; decide
  have e : (((V a).toNat % 2 ^ n : Nat) : Int) = a % 2 ^ n := by
    rw [Int.natCast_emod, hv]
    simp only [Int.natCast_pow]
    exact Int.emod_emod_of_dvd a hd
  rw [e]
  have hi : (2 : Int) ^ n ≤ 4611686018427387904 := by
    have : ((2 ^ n : Nat) : Int) ≤ ((2 ^ 62 : Nat) : Int) := by exact_mod_cast hp
    simpa using this
  have hi0 : (0 : Int) < 2 ^ n := by
    have : (0 : Int) < ((2 ^ n : Nat) : Int) := by exact_mod_cast hpos
    simpa using this
  have h1 := Int.emod_nonneg a (Int.ne_of_gt hi0)
  have h2 := Int.emod_lt_of_pos a hi0
  unfold wrap64
  omega
end Go.Proofs.YtlkabncoaijepaaDoor.Bits
