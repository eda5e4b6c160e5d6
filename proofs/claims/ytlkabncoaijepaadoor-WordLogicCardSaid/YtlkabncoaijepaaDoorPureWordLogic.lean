import Derived.Test.YtlkabncoaijepaaDoorWordPre
import Derived.Test.YtlkabncoaijepaaDoorPAllx6
import Derived.Test.YtlkabncoaijepaaDoorPAllx7
import Derived.Test.YtlkabncoaijepaaDoorPAllx9
namespace Go.Proofs.YtlkabncoaijepaaDoor.Pure
open Go.RowKit Go.Proofs.YtlkabncoaijepaaDoor.X Go.Proofs.YtlkabncoaijepaaDoor.PAll Go.Proofs.YtlkabncoaijepaaDoorW.PrintWords Go.Proofs.YtlkabncoaijepaaDoorW.PrintLast Go.Proofs.YtlkabncoaijepaaDoorW.PrintMore
set_option linter.unusedVariables false

theorem logic_j (x y : Int) : billhooklaw01_WordLogic.j1 1 x y true = some true := by
  simp only [billhooklaw01_WordLogic.j1, un_bang, do_and2, do_or2, Option.bind_some, if_true]
  by_cases h1 : x = 0 <;> by_cases h2 : y = 0 <;> simp [h1, h2] <;> decide +kernel
theorem WordLogic : billhooklaw01_WordLogic.Pure := by
  intro a b p q h0 h1
  refine ⟨2, ?_⟩
  unfold billhooklaw01_WordLogic.f
  rw [ex_f]
  simp only [Option.bind_some, if_true]
  cases p <;> cases q <;> simp only [billhooklaw01_WordLogic.j0, if_true, Bool.false_eq_true, if_false] <;> exact logic_j _ _
end Go.Proofs.YtlkabncoaijepaaDoor.Pure
