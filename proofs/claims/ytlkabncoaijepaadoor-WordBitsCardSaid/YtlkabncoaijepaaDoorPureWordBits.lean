import Derived.Test.YtlkabncoaijepaaDoorWordPre
import Derived.Test.YtlkabncoaijepaaDoorPAllx8
namespace Go.Proofs.YtlkabncoaijepaaDoor.Pure
open Go.RowKit Go.Proofs.YtlkabncoaijepaaDoor.Bits Go.Proofs.YtlkabncoaijepaaDoor.X Go.Proofs.YtlkabncoaijepaaDoor.PAll Go.Proofs.YtlkabncoaijepaaDoorW.PrintWords Go.Proofs.YtlkabncoaijepaaDoorW.PrintLast Go.Proofs.YtlkabncoaijepaaDoorW.PrintMore
set_option linter.unusedVariables false

theorem pow_range (m : Nat) (hm : m < 63) : (1 : Int) ≤ 2 ^ m ∧ (2 : Int) ^ m ≤ 4611686018427387904 := by
  have h1 : 1 ≤ 2 ^ m := Nat.one_le_two_pow
  have h2 : (2 : Nat) ^ m ≤ 2 ^ 62 := Nat.pow_le_pow_right (by decide) (by omega)
  constructor
  · have : ((1 : Nat) : Int) ≤ ((2 ^ m : Nat) : Int) := by exact_mod_cast h1
    simpa using this
  · have : ((2 ^ m : Nat) : Int) ≤ ((2 ^ 62 : Nat) : Int) := by exact_mod_cast h2
    simpa using this
theorem WordBits : billhooklaw01_WordBits.Pure := by
  intro a b c ha hb hc
  have a0 := wf_i64 ha
  have c0 := wf_u8 hc
  obtain ⟨m, hm, em⟩ : ∃ m : Nat, m < 63 ∧ wrap64 (Int.tmod c 63) = (m : Int) := by
    refine ⟨(c % 63).toNat, by omega, ?_⟩
    rw [Int.tmod_eq_emod_of_nonneg c0.1, wrap_in (by omega) (by omega)]
    omega
  have pr := pow_range m hm
  unfold billhooklaw01_WordBits.f
  rw [ex_f]
  simp only [Option.bind_some, if_true, un_not, un_neg, un_bang, em]
  rw [do_shl 1 m (by omega) (by omega), bin_shr]
  simp only [Option.bind_some, opDo, Int.toNat_natCast, Int.one_mul]
  rw [wrap_in (a := 2 ^ m) (by omega) (by omega)]
  have n1 : ¬ ((m : Int) < 0 ∨ 63 < (m : Int)) := by omega
  simp only [if_neg n1, do_add, do_and, do_or, do_xor, do_mul, do_eq, Option.bind_some]
  rw [do_shl a m (by omega) (by omega)]
  have e1 : Go.bits .xor .i64 (-1) a = -1 - a := not_is a0.1 a0.2
  have e2 : Go.bits .xor .i64 (-1) (-1 - a) = a := by rw [not_is (by omega) (by omega)]; omega
  have e3 : wrap64 (a + (-1 - a)) = -1 := by rw [show a + (-1 - a) = -1 by omega]; decide +kernel
  have e4 : wrap64 (wrap64 (-a) + a) = 0 := by rw [wrap_add_l, show -a + a = 0 by omega]; decide +kernel
  have e5 := and_or a b
  have e6 : Go.bits .xor .i64 (Go.bits .xor .i64 a b) b = a := xor_xor a0.1 a0.2
  have e7 : wrap64 (2 ^ m - 1) = (2 : Int) ^ m - 1 := wrap_in (by omega) (by omega)
  have e8 := mask a m hm
  have e9 : wrap64 (wrap64 (a / 2 ^ m * 2 ^ m) + a % 2 ^ m) = a := by
    rw [wrap_add_l, Int.ediv_mul_add_emod, wrap_in a0.1 a0.2]
  simp only [e1, e2, e3, e4, e5, e6, e7, e8, e9, if_true, Option.bind_some, Int.toNat_natCast]
  by_cases z : a = 0 <;> simp [z]
end Go.Proofs.YtlkabncoaijepaaDoor.Pure
