/- The openings of what is given (by wip/gen). -/
import Derived.Test.YtgklcbmaidpbjaaDoorLxAT
import Derived.Test.YtgklcbmaidpbjaaDoorRowG
set_option maxRecDepth 100000
set_option linter.unusedVariables false
namespace Go.Im
open Go.Proofs
open Go.ChangeShapes Go.WideShapes Go.ChangeAt Go.RowKit
end Go.Im
