import Derived.Test.YtlkabncoaijepaaDoorExtEx
import Derived.Test.YtlkabncoaijepaaDoorBits
import Derived.Test.YtlkabncoaijepaaDoorPAllx5
import Derived.Test.YtlkabncoaijepaaDoorPAllx6
namespace Go.Proofs.YtlkabncoaijepaaDoor.Pure
open Go.RowKit Go.Proofs.YtlkabncoaijepaaDoor.Bits Go.Proofs.YtlkabncoaijepaaDoor.X Go.Proofs.YtlkabncoaijepaaDoor.PAll Go.Proofs.YtlkabncoaijepaaDoorW.PrintWords Go.Proofs.YtlkabncoaijepaaDoorW.PrintLast Go.Proofs.YtlkabncoaijepaaDoorW.PrintMore
set_option linter.unusedVariables false

theorem wf_i64 {a : Int} (h : (Lit.int .i64 a).wf = true) : -9223372036854775808 ≤ a ∧ a ≤ 9223372036854775807 := by
  simp [Lit.wf, IntKind.min, IntKind.max, IntKind.signed, IntKind.bits] at h
  omega
theorem wf_u8 {a : Int} (h : (Lit.int .u8 a).wf = true) : 0 ≤ a ∧ a ≤ 255 := by
  simp [Lit.wf, IntKind.min, IntKind.max, IntKind.signed, IntKind.bits] at h
  omega
theorem ex_f : billhooklaw01_examples.f = some true := rfl
theorem bin_or2 (a b : Int) : word_Binary.f ⟨#[124, 124]⟩ a b = some (opDo 0 a b) := bin_lit [124, 124] a b _ rfl
theorem bin_and2 (a b : Int) : word_Binary.f ⟨#[38, 38]⟩ a b = some (opDo 1 a b) := bin_lit [38, 38] a b _ rfl
theorem bin_or (a b : Int) : word_Binary.f ⟨#[124]⟩ a b = some (opDo 2 a b) := bin_lit [124] a b _ rfl
theorem bin_xor (a b : Int) : word_Binary.f ⟨#[94]⟩ a b = some (opDo 3 a b) := bin_lit [94] a b _ rfl
theorem bin_and (a b : Int) : word_Binary.f ⟨#[38]⟩ a b = some (opDo 4 a b) := bin_lit [38] a b _ rfl
theorem bin_eq (a b : Int) : word_Binary.f ⟨#[61, 61]⟩ a b = some (opDo 5 a b) := bin_lit [61, 61] a b _ rfl
theorem bin_ne (a b : Int) : word_Binary.f ⟨#[33, 61]⟩ a b = some (opDo 6 a b) := bin_lit [33, 61] a b _ rfl
theorem bin_lt (a b : Int) : word_Binary.f ⟨#[60]⟩ a b = some (opDo 7 a b) := bin_lit [60] a b _ rfl
theorem bin_le (a b : Int) : word_Binary.f ⟨#[60, 61]⟩ a b = some (opDo 8 a b) := bin_lit [60, 61] a b _ rfl
theorem bin_gt (a b : Int) : word_Binary.f ⟨#[62]⟩ a b = some (opDo 9 a b) := bin_lit [62] a b _ rfl
theorem bin_ge (a b : Int) : word_Binary.f ⟨#[62, 61]⟩ a b = some (opDo 10 a b) := bin_lit [62, 61] a b _ rfl
theorem bin_shl (a b : Int) : word_Binary.f ⟨#[60, 60]⟩ a b = some (opDo 11 a b) := bin_lit [60, 60] a b _ rfl
theorem bin_shr (a b : Int) : word_Binary.f ⟨#[62, 62]⟩ a b = some (opDo 12 a b) := bin_lit [62, 62] a b _ rfl
theorem bin_add (a b : Int) : word_Binary.f ⟨#[43]⟩ a b = some (opDo 13 a b) := bin_lit [43] a b _ rfl
theorem bin_sub (a b : Int) : word_Binary.f ⟨#[45]⟩ a b = some (opDo 14 a b) := bin_lit [45] a b _ rfl
theorem bin_mul (a b : Int) : word_Binary.f ⟨#[42]⟩ a b = some (opDo 15 a b) := bin_lit [42] a b _ rfl
theorem bin_div (a b : Int) : word_Binary.f ⟨#[47]⟩ a b = some (opDo 16 a b) := bin_lit [47] a b _ rfl
theorem bin_rem (a b : Int) : word_Binary.f ⟨#[37]⟩ a b = some (opDo 17 a b) := bin_lit [37] a b _ rfl
theorem do_of {s : ByteArray} {a b : Int} {r : Int × Int} (h : word_Binary.f s a b = some r) : billhooklaw01_do.f s a b = some r.1 := by
  unfold billhooklaw01_do.f; rw [h]; rfl
theorem do_or2 (a b : Int) : billhooklaw01_do.f ⟨#[124, 124]⟩ a b = some (if a = 0 ∧ b = 0 then 0 else 1) := do_of (bin_or2 a b)
theorem do_and2 (a b : Int) : billhooklaw01_do.f ⟨#[38, 38]⟩ a b = some (if a = 0 ∨ b = 0 then 0 else 1) := do_of (bin_and2 a b)
theorem do_or (a b : Int) : billhooklaw01_do.f ⟨#[124]⟩ a b = some (Go.bits .or .i64 a b) := do_of (bin_or a b)
theorem do_xor (a b : Int) : billhooklaw01_do.f ⟨#[94]⟩ a b = some (Go.bits .xor .i64 a b) := do_of (bin_xor a b)
theorem do_and (a b : Int) : billhooklaw01_do.f ⟨#[38]⟩ a b = some (Go.bits .and .i64 a b) := do_of (bin_and a b)
theorem do_eq (a b : Int) : billhooklaw01_do.f ⟨#[61, 61]⟩ a b = some (if a = b then 1 else 0) := do_of (bin_eq a b)
theorem do_ne (a b : Int) : billhooklaw01_do.f ⟨#[33, 61]⟩ a b = some (if a = b then 0 else 1) := do_of (bin_ne a b)
theorem do_lt (a b : Int) : billhooklaw01_do.f ⟨#[60]⟩ a b = some (if a < b then 1 else 0) := do_of (bin_lt a b)
theorem do_le (a b : Int) : billhooklaw01_do.f ⟨#[60, 61]⟩ a b = some (if a ≤ b then 1 else 0) := do_of (bin_le a b)
theorem do_gt (a b : Int) : billhooklaw01_do.f ⟨#[62]⟩ a b = some (if b < a then 1 else 0) := do_of (bin_gt a b)
theorem do_ge (a b : Int) : billhooklaw01_do.f ⟨#[62, 61]⟩ a b = some (if b ≤ a then 1 else 0) := do_of (bin_ge a b)
theorem do_shl (a b : Int) (h0 : 0 ≤ b) (h1 : b ≤ 63) : billhooklaw01_do.f ⟨#[60, 60]⟩ a b = some (wrap64 (a * 2 ^ b.toNat)) := by
  rw [do_of (bin_shl a b)]; simp only [opDo]; rw [if_neg (by omega)]
theorem do_shr (a b : Int) (h0 : 0 ≤ b) (h1 : b ≤ 63) : billhooklaw01_do.f ⟨#[62, 62]⟩ a b = some (a / 2 ^ b.toNat) := by
  rw [do_of (bin_shr a b)]; simp only [opDo]; rw [if_neg (by omega)]
theorem do_add (a b : Int) : billhooklaw01_do.f ⟨#[43]⟩ a b = some (wrap64 (a + b)) := do_of (bin_add a b)
theorem do_sub (a b : Int) : billhooklaw01_do.f ⟨#[45]⟩ a b = some (wrap64 (a - b)) := do_of (bin_sub a b)
theorem do_mul (a b : Int) : billhooklaw01_do.f ⟨#[42]⟩ a b = some (wrap64 (a * b)) := do_of (bin_mul a b)

theorem un_neg (a : Int) : word_Unary.f ⟨#[45]⟩ a = some (wrap64 (-a), true) := by
  unfold word_Unary.f; rw [ByteArray.toList_eq]; rfl
theorem un_not (a : Int) : word_Unary.f ⟨#[126]⟩ a = some (Go.bits .xor .i64 (-1) a, true) := by
  unfold word_Unary.f; rw [ByteArray.toList_eq]; rfl
theorem un_bang (a : Int) : word_Unary.f ⟨#[33]⟩ a = some (if a = 0 then 1 else 0, true) := by
  unfold word_Unary.f word_number_eq.f word_bit.f; rw [ByteArray.toList_eq]
  by_cases h : a = 0 <;> simp [h]

theorem tmod_range (a b : Int) (hb : 0 < b) : -b < Int.tmod a b ∧ Int.tmod a b < b := by
  have h1 := Int.lt_tmod_of_pos a hb
  have h2 := Int.tmod_lt_of_pos a hb
  omega
theorem near_f (a k : Int) (h0 : -9223372036854775808 ≤ a) (h1 : a ≤ 9223372036854775807) (k0 : 0 ≤ k) : ∃ n, billhooklaw01_near.f a k = some n ∧ -9223372036854775808 ≤ n ∧ n ≤ 9223372036854775807 := by
  unfold billhooklaw01_near.f
  by_cases c1 : k < 60
  · rw [if_pos c1]
    have := tmod_range a 70 (by omega)
    exact ⟨_, rfl, by omega, by omega⟩
  · rw [if_neg c1]
    by_cases c2 : k < 80
    · rw [if_pos c2]
      have ht : Int.tmod k 5 = k % 5 := Int.tmod_eq_emod_of_nonneg k0
      simp only [Option.bind_some, ht]
      rw [if_pos (by omega), if_pos (by simp; omega)]
      have : k % 5 = 0 ∨ k % 5 = 1 ∨ k % 5 = 2 ∨ k % 5 = 3 ∨ k % 5 = 4 := by omega
      rcases this with e | e | e | e | e <;> rw [e] <;> exact ⟨_, rfl, by decide, by decide⟩
    · rw [if_neg c2]
      exact ⟨a, rfl, h0, h1⟩
end Go.Proofs.YtlkabncoaijepaaDoor.Pure
