import Derived.Test.YtlkabncoaijepaaDoorWordPre
import Derived.Test.YtlkabncoaijepaaDoorPAllx6
import Derived.Test.YtlkabncoaijepaaDoorPAllx7
import Derived.Test.YtlkabncoaijepaaDoorPAllx9
namespace Go.Proofs.YtlkabncoaijepaaDoor.Pure
open Go.RowKit Go.Proofs.YtlkabncoaijepaaDoor.Bits Go.Proofs.YtlkabncoaijepaaDoor.X Go.Proofs.YtlkabncoaijepaaDoor.PAll Go.Proofs.YtlkabncoaijepaaDoorW.PrintWords Go.Proofs.YtlkabncoaijepaaDoorW.PrintLast Go.Proofs.YtlkabncoaijepaaDoorW.PrintMore
set_option linter.unusedVariables false

theorem WordDivides : billhooklaw01_WordDivides.Pure := by
  intro a b x y h0 h1 h2 h3
  have a0 := wf_i64 h0
  have b0 := wf_i64 h1
  have x0 := wf_u8 h2
  have y0 := wf_u8 h3
  obtain ⟨n, hn, n0, n1⟩ := near_f a x a0.1 a0.2 x0.1
  obtain ⟨m, hm, m0, m1⟩ := near_f b y b0.1 b0.2 y0.1
  unfold billhooklaw01_WordDivides.f
  rw [ex_f, hn, hm]
  simp only [Option.bind_some, if_true, bin_div, bin_rem, do_mul, do_add, do_lt]
  by_cases z : m = 0
  · subst z
    simp [opDo]
  · rw [if_neg z]
    simp only [opDo, if_neg z]
    have e : wrap64 (wrap64 (wrap64 (Int.tdiv n m) * m) + Int.tmod n m) = n := by
      rw [wrap_mul_l, wrap_add_l, Int.tdiv_mul_add_tmod, wrap_in n0 n1]
    rw [e]
    simp only [if_true]
    by_cases r : Int.tmod n m = 0
    · rw [if_pos r]
    · rw [if_neg r]
      have sg : (decide (Int.tmod n m > 0) == decide (n > 0)) = true := by
        by_cases p : 0 ≤ n
        · have : 0 ≤ Int.tmod n m := Int.tmod_nonneg m p
          have q1 : Int.tmod n m > 0 := by omega
          have q2 : n > 0 := by
            rcases Int.lt_or_eq_of_le p with h | h
            · exact h
            · subst h; simp at r
          simp [q1, q2]
        · have e2 : Int.tmod n m = - Int.tmod (-n) m := by rw [Int.neg_tmod]; omega
          have : 0 ≤ Int.tmod (-n) m := Int.tmod_nonneg m (by omega)
          have q1 : ¬ Int.tmod n m > 0 := by omega
          have q2 : ¬ n > 0 := by omega
          simp [q1, q2]
      rw [if_pos sg]
      by_cases t : m = -9223372036854775808
      · rw [if_pos t]
      · rw [if_neg t]
        have ab : (mx (Int.tmod n m) (wrap64 (-Int.tmod n m))) < mx m (wrap64 (-m)) := by
          have k1 : Int.tmod n m < (m.natAbs : Int) ∧ -(m.natAbs : Int) < Int.tmod n m := by
            by_cases pm : 0 < m
            · have := tmod_range n m pm; omega
            · have := tmod_range n (-m) (by omega)
              rw [Int.tmod_neg] at this; omega
          have w1 : wrap64 (-Int.tmod n m) = -Int.tmod n m := wrap_in (by omega) (by omega)
          have w2 : wrap64 (-m) = -m := wrap_in (by omega) (by omega)
          rw [w1, w2]
          unfold mx
          split <;> split <;> omega
        rw [if_pos ab]
        rfl
end Go.Proofs.YtlkabncoaijepaaDoor.Pure
