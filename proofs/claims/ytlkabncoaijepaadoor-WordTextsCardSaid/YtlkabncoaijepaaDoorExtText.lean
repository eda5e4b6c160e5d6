import Derived.Test.YtlkabncoaijepaaDoorExtOps
import Derived.Test.YtlkabncoaijepaaDoorShelf
import Derived.Lib.AppendIntMem
namespace Go.Proofs.YtlkabncoaijepaaDoor.X
open Go.RowKit Go.Proofs.YtlkabncoaijepaaDoorW.PrintWords Go.Proofs.YtlkabncoaijepaaDoorW.PrintLast Go.Proofs.YtlkabncoaijepaaDoorW.PrintMore
set_option linter.unusedVariables false

/-- What the world must hold: the table of powers of ten. -/
def GL (w : World) : Prop := Lib.TabIs Tryd.prog w "internal/strconv.uint64pow10" .u64 Lib.pow10Tab
theorem GL.below {w w1 : World} (h : GL w) (hb : Below w.heap.size w w1) : GL w1 := Lib.TabBelow.here (Lib.TabBelow.on (Lib.tabBelow_of_tabIs h) hb)

def word_Text.f (a0 : Int) : Option ByteArray := if -9223372036854775808 ≤ a0 ∧ a0 ≤ 9223372036854775807 then some ⟨(Lib.itoa a0).toArray⟩ else none

set_option maxHeartbeats 4000000 in
set_option maxRecDepth 100000 in
theorem word_Text.calls (a0 : Int) (r : ByteArray) (w : World) (hG : GL w) (h : word_Text.f a0 = some r) :
    Calls Tryd.prog 22 #[.int .i64 a0] w fun e w' => e = .returned (.string r) ∧ Below w.heap.size w w' := by
  unfold word_Text.f at h
  by_cases hr : -9223372036854775808 ≤ a0 ∧ a0 ≤ 9223372036854775807
  · rw [if_pos hr] at h
    obtain rfl := Option.some.inj h
    obtain ⟨h0, h1⟩ := hr
    have HG := Lib.hid hG
    clear hG h
    go_enter Tryd.func22, Tryd.ntmps22
    go_wp2_with (go_at_call 29; refine (Tryd.strconv_FormatInt_10 a0 h0 h1 _ HG.out).mono ?_; rintro e w' ⟨rfl, k, os, rfl⟩)
    go_ret
    exact ⟨rfl, Lib.below_grow _ _ (Nat.le_refl _) _ _⟩
  · rw [if_neg hr] at h
    cases h
end Go.Proofs.YtlkabncoaijepaaDoor.X
