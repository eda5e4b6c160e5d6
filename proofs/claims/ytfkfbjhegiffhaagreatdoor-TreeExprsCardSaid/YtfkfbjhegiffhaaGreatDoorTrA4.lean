/- Printed contracts (by wip/gen). -/
import Derived.Test.YtfkfbjhegiffhaaGreatDoorTrA3
set_option linter.unusedVariables false
set_option linter.unusedSimpArgs false
set_option maxRecDepth 100000
set_option maxHeartbeats 4000000
namespace Go.Im
end Go.Im
