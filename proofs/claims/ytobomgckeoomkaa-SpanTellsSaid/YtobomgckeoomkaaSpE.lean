import Derived.Test.YtobomgckeoomkaaProg
import Derived.Test.YtobomgckeoomkaaImSym
set_option maxRecDepth 100000
open Go Go.Im
theorem hmixedE : Go.Proofs.Try.prog.follows .mixedOrders = true := by kernel_rfl
theorem S.examples_icall : icall Go.Proofs.Try.prog (fun _ => {}) (fun _ _ _ _ _ => False) (fun _ _ _ => none) 300 10 [] [] = some (.bool false true, []) := by kernel_rfl
theorem S.examples_sim : Sim Go.Proofs.Try.prog 10 [] [] (.bool false true) [] := icall_ok hmixedE (fun _ _ _ _ _ h => h.elim) (fun _ _ _ _ _ h => by cases h) 300 10 [] [] _ _ S.examples_icall
