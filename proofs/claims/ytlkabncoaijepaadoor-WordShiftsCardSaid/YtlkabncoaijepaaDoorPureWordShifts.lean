import Derived.Test.YtlkabncoaijepaaDoorWordPre
import Derived.Test.YtlkabncoaijepaaDoorPAllx11
namespace Go.Proofs.YtlkabncoaijepaaDoor.Pure
open Go.RowKit Go.Proofs.YtlkabncoaijepaaDoor.Bits Go.Proofs.YtlkabncoaijepaaDoor.X Go.Proofs.YtlkabncoaijepaaDoor.PAll Go.Proofs.YtlkabncoaijepaaDoorW.PrintWords Go.Proofs.YtlkabncoaijepaaDoorW.PrintLast Go.Proofs.YtlkabncoaijepaaDoorW.PrintMore
set_option linter.unusedVariables false

theorem shr_shr (x : Int) (m n : Nat) : x / 2 ^ m / 2 ^ n = x / 2 ^ (m + n) := by
  rw [Int.pow_add, Int.ediv_ediv_of_nonneg]
  exact Int.pow_nonneg (by decide)
theorem shl_shr_shl (x : Int) (m : Nat) (hm : m ≤ 63) : wrap64 (wrap64 (x * 2 ^ m) / 2 ^ m * 2 ^ m) = wrap64 (x * 2 ^ m) := by
  have hd : (2 : Int) ^ m ∣ 18446744073709551616 := by
    refine ⟨2 ^ (64 - m), ?_⟩
    rw [← Int.pow_add, show m + (64 - m) = 64 by omega]; decide +kernel
  have hw : (2 : Int) ^ m ∣ wrap64 (x * 2 ^ m) := by
    obtain ⟨q, hq⟩ := wrap_mod (x * 2 ^ m)
    rw [hq]
    exact Int.dvd_add (Int.dvd_mul_left _ _) (Int.dvd_trans hd (Int.dvd_mul_right _ _))
  rw [Int.ediv_mul_cancel hw]
  have r := wrap_range (x * 2 ^ m)
  exact wrap_in r.1 r.2
theorem shifts_j (x y : Int) (h0 : -9223372036854775808 ≤ x ∧ x ≤ 9223372036854775807) : billhooklaw01_WordShifts.j0 2 x y true = some true := by
  simp only [billhooklaw01_WordShifts.j0, bin_shl, bin_shr, Option.bind_some]
  by_cases l : y < 0
  · rw [if_pos l]
    have h : y < 0 ∨ 63 < y := .inl l
    simp only [billhooklaw01_WordShifts.j1, if_true, opDo, if_pos h]
    rfl
  · rw [if_neg l]
    by_cases g : y > 63
    · have h : y < 0 ∨ 63 < y := .inr (by omega)
      have hd : decide (y > 63) = true := decide_eq_true g
      simp only [hd, billhooklaw01_WordShifts.j1, if_true, opDo, if_pos h]
      rfl
    · obtain ⟨m, rfl⟩ := Int.eq_ofNat_of_zero_le (show 0 ≤ y by omega)
      have hm : m ≤ 63 := by omega
      have e0 : wrap64 (63 - (m : Int)) = ((63 - m : Nat) : Int) := by rw [wrap_in (by omega) (by omega)]; omega
      have n1 : ¬ ((m : Int) < 0 ∨ 63 < (m : Int)) := by omega
      have hd : decide ((m : Int) > 63) = false := decide_eq_false g
      simp only [hd, billhooklaw01_WordShifts.j1, bin_shl, bin_shr, do_eq, opDo, Option.bind_some, e0, if_neg n1, Bool.false_eq_true, if_false]
      rw [do_shr _ _ (by omega) (by omega)]
      simp only [Option.bind_some]
      rw [do_shr _ _ (by omega) (by omega)]
      simp only [Option.bind_some, Int.toNat_natCast, if_true]
      have e : x / 2 ^ m / 2 ^ (63 - m) = x / 2 ^ Int.toNat 63 := by
        rw [shr_shr, show m + (63 - m) = 63 by omega]; rfl
      rw [shl_shr_shl x m hm, if_pos rfl, if_pos e]
      rfl
theorem WordShifts : billhooklaw01_WordShifts.Pure := by
  intro a b small h0 h1
  refine ⟨2, ?_⟩
  unfold billhooklaw01_WordShifts.f
  rw [ex_f]
  simp only [Option.bind_some, if_true]
  cases small
  · exact shifts_j a b (wf_i64 h0)
  · exact shifts_j a _ (wf_i64 h0)
end Go.Proofs.YtlkabncoaijepaaDoor.Pure
