import Derived.Test.YtlkabncoaijepaaDoorWordPre
import Derived.Test.YtlkabncoaijepaaDoorPAllx6
import Derived.Test.YtlkabncoaijepaaDoorPAllx7
import Derived.Test.YtlkabncoaijepaaDoorPAllx9
namespace Go.Proofs.YtlkabncoaijepaaDoor.Pure
open Go.RowKit Go.Proofs.YtlkabncoaijepaaDoor.X Go.Proofs.YtlkabncoaijepaaDoor.PAll Go.Proofs.YtlkabncoaijepaaDoorW.PrintWords Go.Proofs.YtlkabncoaijepaaDoorW.PrintLast Go.Proofs.YtlkabncoaijepaaDoorW.PrintMore
set_option linter.unusedVariables false

theorem orders_j (x y : Int) (h0 : -9223372036854775808 ≤ x ∧ x ≤ 9223372036854775807) (h1 : -9223372036854775808 ≤ y ∧ y ≤ 9223372036854775807) : billhooklaw01_WordOrders.j0 1 x y true = some true := by
  simp only [billhooklaw01_WordOrders.j0, do_lt, do_gt, do_eq, do_ge, do_le, do_ne, do_sub, Option.bind_some, if_true]
  by_cases e : x = y
  · subst e
    simp only [if_true, Int.sub_self, Int.lt_irrefl, Int.le_refl, if_false, beq_self_eq_true]
    decide +kernel
  · have hs : ¬ wrap64 (x - y) = 0 := by unfold wrap64; omega
    by_cases l : x < y
    · have l1 : ¬ y < x := by omega
      have l2 : ¬ y ≤ x := by omega
      have l3 : x ≤ y := by omega
      simp only [e, l, l1, l2, l3, hs, if_true, if_false]
      have : (x == y) = false := beq_eq_false_iff_ne.2 e
      rw [this]
      decide +kernel
    · have l1 : y < x := by omega
      have l2 : y ≤ x := by omega
      have l3 : ¬ x ≤ y := by omega
      simp only [e, l, l1, l2, l3, hs, if_true, if_false]
      have : (x == y) = false := beq_eq_false_iff_ne.2 e
      rw [this]
      decide +kernel
theorem WordOrders : billhooklaw01_WordOrders.Pure := by
  intro a b same h0 h1
  refine ⟨1, ?_⟩
  unfold billhooklaw01_WordOrders.f
  rw [ex_f]
  simp only [Option.bind_some, if_true]
  cases same
  · exact orders_j a b (wf_i64 h0) (wf_i64 h1)
  · exact orders_j a a (wf_i64 h0) (wf_i64 h0)
end Go.Proofs.YtlkabncoaijepaaDoor.Pure
