/- The openings of what is given (by wip/gen). -/
import Derived.Test.YtalnancndjgmgaaGreatDoorEvT
import Derived.Test.YtalnancndjgmgaaGreatDoorRowG
set_option maxRecDepth 100000
set_option linter.unusedVariables false
namespace Go.Im
open Go.Proofs
open Go.ChangeShapes Go.WideShapes Go.ChangeAt Go.RowKit
end Go.Im
