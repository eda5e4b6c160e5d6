/- The program's types (by wip/gen). -/
import Derived.Test.YtgklcbmaidpbjaaDoorImGn
set_option linter.unusedVariables false
set_option linter.unusedSimpArgs false
set_option maxRecDepth 100000
set_option maxHeartbeats 4000000
namespace Go.Im
structure LexToken where
  Kind : Int
  Text : ByteArray
  N : Int
  At : Int
def LexToken.c (x : LexToken) : V := .agg [.int true .i64 (LexToken.Kind x), .str true (LexToken.Text x), .int true .u64 (LexToken.N x), .int true .i64 (LexToken.At x)]
def LexToken.v (x : LexToken) : V := LexToken.c x
theorem LexToken.v_eq (x : LexToken) : LexToken.v x = LexToken.c x := rfl
theorem LexToken.ok (x : LexToken) : okE 31 (LexToken.v x) = true := by rw [LexToken.v_eq]; kernel_rfl
end Go.Im
