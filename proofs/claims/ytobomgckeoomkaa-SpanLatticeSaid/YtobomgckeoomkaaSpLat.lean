import Derived.Test.YtobomgckeoomkaaSpC
import Derived.Test.YtobomgckeoomkaaSpLawL
open Go Go.Im
namespace S
theorem lattice_true (a b : Int) (c : Bool) (d e f g : Int) (h : Bool) (i j k : Int) : S.Lattice a b c d e f g h i j k = true := by
  have hA := Meet_ok (rangespan_0 a b c d e) (rangespan_1 a b c d e)
  have hB := Meet_ok (rangespan_0 f g h i j) (rangespan_1 f g h i j)
  unfold S.Lattice
  generalize Meet_0 (rangespan_0 a b c d e) (rangespan_1 a b c d e) Top_0 Top_1 = A0 at *
  generalize Meet_1 (rangespan_0 a b c d e) (rangespan_1 a b c d e) Top_0 Top_1 = A1 at *
  generalize Meet_0 (rangespan_0 f g h i j) (rangespan_1 f g h i j) Top_0 Top_1 = B0 at *
  generalize Meet_1 (rangespan_0 f g h i j) (rangespan_1 f g h i j) Top_0 Top_1 = B1 at *
  simp only [join_l hA hB, join_r hA hB, meet_l hA hB, meet_r hA hB, widen_in hA hB, in_join hA hB, has_meet hA hB, join_comm hA hB, meet_comm hA hB, cond_true, cond_false, beq_self_eq_true]
  cases Has A0 A1 k <;> simp
end S
theorem S.lattice_says (a b : Int) (c : Bool) (d e f g : Int) (h : Bool) (i j k : Int) : Sim Go.Proofs.Try.prog 5 [.agg [.int true .i64 a, .int true .i64 b, .bool true c, .int true .u8 d, .int true .u8 e], .agg [.int true .i64 f, .int true .i64 g, .bool true h, .int true .u8 i, .int true .u8 j], .int true .i64 k] [] (.bool true true) [] :=
  (S.Lattice_sim a b c d e f g h i j k).says (Says.bool (S.lattice_true a b c d e f g h i j k))
