/- Printed contracts (by wip/gen). -/
import Derived.Test.YtfkfbjhegiffhaaGreatDoorTrA1
set_option linter.unusedVariables false
set_option linter.unusedSimpArgs false
set_option maxRecDepth 100000
set_option maxHeartbeats 4000000
namespace Go.Im
def S.law03_feed_stmt_c8 (n : Nat) (s1 : Int) (s2 : Bool) (s7 : Int) (s8 : Int) (s53 : Bool) (g0 : Law03Feed) (g1_0 : Int) (g1_1 : Int) (g1_2 : ByteArray) (g1_3 : ByteArray) (g2 : (List TreeExpr)) (g3_0 : Int) (g3_1 : Int) (g3_2 : ByteArray) (g3_3 : ByteArray) (g4 : (List TreeExpr)) : Option (Int × Bool × Int × Int × Law03Feed × Int × Int × ByteArray × ByteArray × (List TreeExpr) × Int × Int × ByteArray × ByteArray × (List TreeExpr)) := (bif s53 then (some ((s1),(s2),(s7),(0),g0,(g1_0),(g1_1),(g1_2),(g1_3),(g2),(g3_0),(g3_1),(g3_2),(g3_3),(g4))) else (some ((s1),(s2),(s7),(s8),g0,(g1_0),(g1_1),(g1_2),(g1_3),(g2),(g3_0),(g3_1),(g3_2),(g3_3),(g4))))
end Go.Im
