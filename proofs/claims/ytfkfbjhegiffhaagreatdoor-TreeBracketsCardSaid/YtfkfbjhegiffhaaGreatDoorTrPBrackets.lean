/- TreeBrackets: in plain Lean. -/
import Derived.Test.YtfkfbjhegiffhaaGreatDoorTrA0
set_option maxRecDepth 100000
set_option linter.unusedVariables false
namespace Go.Im
theorem brk : ∀ i : Fin 18, ∀ j : Fin 18, ∀ b : Bool, S.law03_TreeBrackets 10 (i.val : Int) (j.val : Int) b = some true := by decide +kernel
theorem tm18 {a : Int} (h : 0 ≤ a) : ∃ i : Fin 18, Int.tmod a 18 = (i.val : Int) ∧ Int.tmod (Int.tmod a 18) 18 = Int.tmod a 18 := by
  rw [Int.tmod_eq_emod_of_nonneg h]
  have h1 := Int.emod_nonneg a (show (18 : Int) ≠ 0 by decide)
  have h2 := Int.emod_lt_of_pos a (show (0 : Int) < 18 by decide)
  rw [Int.tmod_eq_emod_of_nonneg h1]
  exact ⟨⟨(a % 18).toNat, by omega⟩, by simp; omega, by omega⟩
theorem Pure.TreeBrackets (a b : Int) (c : Bool) (ha : inK .u8 a = true) (hb : inK .u8 b = true) (_ : True) : ∃ n, S.law03_TreeBrackets n a b c = some true := by
  obtain ⟨i, hi, hi2⟩ := tm18 (a := a) (of_decide_eq_true (Bool.and_eq_true_iff.1 ha).1)
  obtain ⟨j, hj, hj2⟩ := tm18 (a := b) (of_decide_eq_true (Bool.and_eq_true_iff.1 hb).1)
  refine ⟨10, ?_⟩
  have e : S.law03_TreeBrackets 10 a b c = S.law03_TreeBrackets 10 (Int.tmod a 18) (Int.tmod b 18) c := by
    unfold S.law03_TreeBrackets
    rw [hi2, hj2]
  rw [e, hi, hj]
  exact brk i j c
end Go.Im
