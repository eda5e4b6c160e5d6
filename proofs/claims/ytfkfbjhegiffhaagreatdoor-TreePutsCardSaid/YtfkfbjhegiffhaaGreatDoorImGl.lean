/- The ideal machine: what the world must hold: the tables that the library reads. -/
import Derived.Test.YtfkfbjhegiffhaaGreatDoorProg
import Derived.Lib.AppendIntMem
namespace Go.Im
/-- The powers of ten, as the library's own initialiser lays them. -/
def GW (w : World) : Prop := Lib.TabIs Go.Proofs.Tryz.prog w "internal/strconv.uint64pow10" .u64 Lib.pow10Tab
theorem GW.below {w : World} (h : GW w) : ∀ w', RowKit.Below w.heap.size w w' → GW w' := Lib.tabBelow_of_tabIs h
end Go.Im
