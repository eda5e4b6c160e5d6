/-
  No cell of these rows narrows 'for every input' (looked for: loops, veiled, ifaces, maps, wideKeys, modest, calm, conditions, laid).
  DERIVED. THE GIVEN ROWS OF THIS SEAT. 7 by the template 'for every input the law returns true; each argument reads behind the call as it read before'; 0 by the template 'total and deterministic' (their statements: YtobomgckeoomkaaTotals.lean).
  GIVEN WITH THE SEED: the statements are not yours to turn. If you find one false, say at which input.
  Laid BY PROGRAM, IN A SANDBOX (cutbox-rows.mjs): the forced cells as the released guide's own fill.sh prints them over the translation 5660b302bcd7b928… (all of the seat's roots in one cut). By AI agents, Wed Nov 11 2026. No macro, syntax, notation, axiom, sorry.
-/
import Derived.Test.YtobomgckeoomkaaChecked
import GoSem.Claim
import GoSem.ClaimJoined
import GoSem.ClaimMapViews
import Derived.JoinedTies
import Derived.KernelRfl
namespace Go.Proofs.Ytobomgckeoomkaa
/- THE CELL 'sum', in the pinned program and in every row, IS THE sha256 OF THE DUMP (.gsa) THAT YtobomgckeoomkaaProg.lean LOADS. Nothing in Lean hashes anything: it is a label: what it is worth is what the hold of that sum in a sandbox is worth. -/
noncomputable def Try.pinned : Pinned := { name := "ytobomgckeoomkaa", sum := "5660b302bcd7b9288d8b9bb74cffccfe9d0b591adb7e10158d8fa329c5fda41c", checked := Try.checked }
namespace Rows
def none {H : Type} : Left H := { results := [], args := [] }

/-- 'billhooklaw11.SpanTells': WHATEVER THE INPUT: true; the input reads as it did. -/
def spanTellsSpec : ChangeSpec := { name := "spanTells", fn := fun _ => fun
  | [d1, d2, d3, d4, d5] => { results := [.lit (.bool true)], args := [d1, d2, d3, d4, d5] }
  | _ => none }
def spanTellsRow : OpenClaim := { program := "ytobomgckeoomkaa", sum := "5660b302bcd7b9288d8b9bb74cffccfe9d0b591adb7e10158d8fa329c5fda41c", func := "billhook/billhooklaw11.SpanTells", spec := "spanTells", unfollowed := true, recurses := true, apart := false }
def SpanTellsSaid : Prop := spanTellsRow.holds Try.pinned (OpenSpec.ofChange spanTellsSpec)

/-- ITS FALSE NEIGHBOUR: 'it returns false'. Refute it at one input. -/
def spanTellsWrong : ChangeSpec := { name := "spanTells", fn := fun _ => fun
  | [d1, d2, d3, d4, d5] => { results := [.lit (.bool false)], args := [d1, d2, d3, d4, d5] }
  | _ => none }
def SpanTellsWrongFalsely : Prop := spanTellsRow.holds Try.pinned (OpenSpec.ofChange spanTellsWrong)

/-- 'billhooklaw11.SpanSuch': WHATEVER THE INPUT: true; the input reads as it did. -/
def spanSuchSpec : ChangeSpec := { name := "spanSuch", fn := fun _ => fun
  | [d1, d2, d3, d4, d5] => { results := [.lit (.bool true)], args := [d1, d2, d3, d4, d5] }
  | _ => none }
def spanSuchRow : OpenClaim := { program := "ytobomgckeoomkaa", sum := "5660b302bcd7b9288d8b9bb74cffccfe9d0b591adb7e10158d8fa329c5fda41c", func := "billhook/billhooklaw11.SpanSuch", spec := "spanSuch", unfollowed := true, recurses := true, apart := false }
def SpanSuchSaid : Prop := spanSuchRow.holds Try.pinned (OpenSpec.ofChange spanSuchSpec)

/-- ITS FALSE NEIGHBOUR: 'it returns false'. Refute it at one input. -/
def spanSuchWrong : ChangeSpec := { name := "spanSuch", fn := fun _ => fun
  | [d1, d2, d3, d4, d5] => { results := [.lit (.bool false)], args := [d1, d2, d3, d4, d5] }
  | _ => none }
def SpanSuchWrongFalsely : Prop := spanSuchRow.holds Try.pinned (OpenSpec.ofChange spanSuchWrong)

/-- 'billhooklaw11.SpanLattice': WHATEVER THE INPUT: true; the input reads as it did. -/
def spanLatticeSpec : ChangeSpec := { name := "spanLattice", fn := fun _ => fun
  | [d1, d2, d3] => { results := [.lit (.bool true)], args := [d1, d2, d3] }
  | _ => none }
def spanLatticeRow : OpenClaim := { program := "ytobomgckeoomkaa", sum := "5660b302bcd7b9288d8b9bb74cffccfe9d0b591adb7e10158d8fa329c5fda41c", func := "billhook/billhooklaw11.SpanLattice", spec := "spanLattice", unfollowed := true, recurses := true, apart := false }
def SpanLatticeSaid : Prop := spanLatticeRow.holds Try.pinned (OpenSpec.ofChange spanLatticeSpec)

/-- ITS FALSE NEIGHBOUR: 'it returns false'. Refute it at one input. -/
def spanLatticeWrong : ChangeSpec := { name := "spanLattice", fn := fun _ => fun
  | [d1, d2, d3] => { results := [.lit (.bool false)], args := [d1, d2, d3] }
  | _ => none }
def SpanLatticeWrongFalsely : Prop := spanLatticeRow.holds Try.pinned (OpenSpec.ofChange spanLatticeWrong)

/-- 'billhooklaw11.SpanWidens': WHATEVER THE INPUT: true; the input reads as it did. -/
def spanWidensSpec : ChangeSpec := { name := "spanWidens", fn := fun _ => fun
  | [d1, d2] => { results := [.lit (.bool true)], args := [d1, d2] }
  | _ => none }
def spanWidensRow : OpenClaim := { program := "ytobomgckeoomkaa", sum := "5660b302bcd7b9288d8b9bb74cffccfe9d0b591adb7e10158d8fa329c5fda41c", func := "billhook/billhooklaw11.SpanWidens", spec := "spanWidens", unfollowed := true, recurses := true, apart := false }
def SpanWidensSaid : Prop := spanWidensRow.holds Try.pinned (OpenSpec.ofChange spanWidensSpec)

/-- ITS FALSE NEIGHBOUR: 'it returns false'. Refute it at one input. -/
def spanWidensWrong : ChangeSpec := { name := "spanWidens", fn := fun _ => fun
  | [d1, d2] => { results := [.lit (.bool false)], args := [d1, d2] }
  | _ => none }
def SpanWidensWrongFalsely : Prop := spanWidensRow.holds Try.pinned (OpenSpec.ofChange spanWidensWrong)

/-- 'billhooklaw11.SpanExact': WHATEVER THE INPUT: true; the input reads as it did. -/
def spanExactSpec : ChangeSpec := { name := "spanExact", fn := fun _ => fun
  | [d1, d2, d3, d4, d5] => { results := [.lit (.bool true)], args := [d1, d2, d3, d4, d5] }
  | _ => none }
def spanExactRow : OpenClaim := { program := "ytobomgckeoomkaa", sum := "5660b302bcd7b9288d8b9bb74cffccfe9d0b591adb7e10158d8fa329c5fda41c", func := "billhook/billhooklaw11.SpanExact", spec := "spanExact", unfollowed := true, recurses := true, apart := false }
def SpanExactSaid : Prop := spanExactRow.holds Try.pinned (OpenSpec.ofChange spanExactSpec)

/-- ITS FALSE NEIGHBOUR: 'it returns false'. Refute it at one input. -/
def spanExactWrong : ChangeSpec := { name := "spanExact", fn := fun _ => fun
  | [d1, d2, d3, d4, d5] => { results := [.lit (.bool false)], args := [d1, d2, d3, d4, d5] }
  | _ => none }
def SpanExactWrongFalsely : Prop := spanExactRow.holds Try.pinned (OpenSpec.ofChange spanExactWrong)

/-- 'billhooklaw11.SpanTruth': WHATEVER THE INPUT: true; the input reads as it did. -/
def spanTruthSpec : ChangeSpec := { name := "spanTruth", fn := fun _ => fun
  | [d1, d2] => { results := [.lit (.bool true)], args := [d1, d2] }
  | _ => none }
def spanTruthRow : OpenClaim := { program := "ytobomgckeoomkaa", sum := "5660b302bcd7b9288d8b9bb74cffccfe9d0b591adb7e10158d8fa329c5fda41c", func := "billhook/billhooklaw11.SpanTruth", spec := "spanTruth", unfollowed := true, recurses := true, apart := false }
def SpanTruthSaid : Prop := spanTruthRow.holds Try.pinned (OpenSpec.ofChange spanTruthSpec)

/-- ITS FALSE NEIGHBOUR: 'it returns false'. Refute it at one input. -/
def spanTruthWrong : ChangeSpec := { name := "spanTruth", fn := fun _ => fun
  | [d1, d2] => { results := [.lit (.bool false)], args := [d1, d2] }
  | _ => none }
def SpanTruthWrongFalsely : Prop := spanTruthRow.holds Try.pinned (OpenSpec.ofChange spanTruthWrong)

/-- 'billhooklaw11.SpanHolds': WHATEVER THE INPUT: true; the input reads as it did. -/
def spanHoldsSpec : ChangeSpec := { name := "spanHolds", fn := fun _ => fun
  | [d1, d2, d3, d4, d5] => { results := [.lit (.bool true)], args := [d1, d2, d3, d4, d5] }
  | _ => none }
def spanHoldsRow : OpenClaim := { program := "ytobomgckeoomkaa", sum := "5660b302bcd7b9288d8b9bb74cffccfe9d0b591adb7e10158d8fa329c5fda41c", func := "billhook/billhooklaw11.SpanHolds", spec := "spanHolds", unfollowed := true, recurses := true, apart := false }
def SpanHoldsSaid : Prop := spanHoldsRow.holds Try.pinned (OpenSpec.ofChange spanHoldsSpec)

/-- ITS FALSE NEIGHBOUR: 'it returns false'. Refute it at one input. -/
def spanHoldsWrong : ChangeSpec := { name := "spanHolds", fn := fun _ => fun
  | [d1, d2, d3, d4, d5] => { results := [.lit (.bool false)], args := [d1, d2, d3, d4, d5] }
  | _ => none }
def SpanHoldsWrongFalsely : Prop := spanHoldsRow.holds Try.pinned (OpenSpec.ofChange spanHoldsWrong)

/- THE SECOND FORM. 'bulk': how many values and letters a reading holds, each counted each time it is reached (what is shared counts as often as it is met; a slice's spare places count too). A statement '..UptoSaid' is the law's where the arguments, and the package variables that the reading takes, are together of bulk at most 1048576: NARROWER than '..Said'. Prove '..Said' where nothing that the law and all that it calls make is longer than what came in: it says more and counts as full. Else prove '..UptoSaid'. A law counts once. -/
mutual
def uptoBulk {H : Type} : DataW H → Nat
  | .lit (.string bytes) => bytes.length + 1
  | .lit _ => 1
  | .nil => 1
  | .ptr d => uptoBulk d + 1
  | .slice elems spare => uptoBulkAll elems + uptoBulkAll spare + 1
  | .agg parts => uptoBulkAll parts + 1
  | .iface _ d => uptoBulk d + 1
  | .map entries => uptoBulkEntries entries + 1
  | .held _ => 1
def uptoBulkAll {H : Type} : List (DataW H) → Nat
  | [] => 0
  | d :: r => uptoBulk d + uptoBulkAll r
def uptoBulkEntries {H : Type} : List (Lit × DataW H) → Nat
  | [] => 0
  | x :: r => uptoBulkEntry x + uptoBulkEntries r
def uptoBulkEntry {H : Type} : Lit × DataW H → Nat
  | (.string bytes, d) => bytes.length + uptoBulk d + 1
  | (_, d) => uptoBulk d + 1
 end
def uptoSmall : (H : Type) → List (DataW H) → Bool := fun _ ds => decide (uptoBulkAll ds ≤ 1048576)
def OpenSpec.upto (s : _root_.Go.ChangeSpec) : _root_.Go.OpenSpec := { _root_.Go.OpenSpec.ofChange s with cond := some uptoSmall }

/-- 'billhooklaw11.SpanTells', WHERE WHAT IT READS IS OF BULK AT MOST 1048576: true; the input reads as it did. -/
def spanTellsUptoRow : OpenClaim := { program := "ytobomgckeoomkaa", sum := "5660b302bcd7b9288d8b9bb74cffccfe9d0b591adb7e10158d8fa329c5fda41c", func := "billhook/billhooklaw11.SpanTells", spec := "spanTells", unfollowed := true, recurses := true, apart := false, narrowed := true }
def SpanTellsUptoSaid : Prop := spanTellsUptoRow.holds Try.pinned (OpenSpec.upto spanTellsSpec)

/-- 'billhooklaw11.SpanSuch', WHERE WHAT IT READS IS OF BULK AT MOST 1048576: true; the input reads as it did. -/
def spanSuchUptoRow : OpenClaim := { program := "ytobomgckeoomkaa", sum := "5660b302bcd7b9288d8b9bb74cffccfe9d0b591adb7e10158d8fa329c5fda41c", func := "billhook/billhooklaw11.SpanSuch", spec := "spanSuch", unfollowed := true, recurses := true, apart := false, narrowed := true }
def SpanSuchUptoSaid : Prop := spanSuchUptoRow.holds Try.pinned (OpenSpec.upto spanSuchSpec)

/-- 'billhooklaw11.SpanLattice', WHERE WHAT IT READS IS OF BULK AT MOST 1048576: true; the input reads as it did. -/
def spanLatticeUptoRow : OpenClaim := { program := "ytobomgckeoomkaa", sum := "5660b302bcd7b9288d8b9bb74cffccfe9d0b591adb7e10158d8fa329c5fda41c", func := "billhook/billhooklaw11.SpanLattice", spec := "spanLattice", unfollowed := true, recurses := true, apart := false, narrowed := true }
def SpanLatticeUptoSaid : Prop := spanLatticeUptoRow.holds Try.pinned (OpenSpec.upto spanLatticeSpec)

/-- 'billhooklaw11.SpanWidens', WHERE WHAT IT READS IS OF BULK AT MOST 1048576: true; the input reads as it did. -/
def spanWidensUptoRow : OpenClaim := { program := "ytobomgckeoomkaa", sum := "5660b302bcd7b9288d8b9bb74cffccfe9d0b591adb7e10158d8fa329c5fda41c", func := "billhook/billhooklaw11.SpanWidens", spec := "spanWidens", unfollowed := true, recurses := true, apart := false, narrowed := true }
def SpanWidensUptoSaid : Prop := spanWidensUptoRow.holds Try.pinned (OpenSpec.upto spanWidensSpec)

/-- 'billhooklaw11.SpanExact', WHERE WHAT IT READS IS OF BULK AT MOST 1048576: true; the input reads as it did. -/
def spanExactUptoRow : OpenClaim := { program := "ytobomgckeoomkaa", sum := "5660b302bcd7b9288d8b9bb74cffccfe9d0b591adb7e10158d8fa329c5fda41c", func := "billhook/billhooklaw11.SpanExact", spec := "spanExact", unfollowed := true, recurses := true, apart := false, narrowed := true }
def SpanExactUptoSaid : Prop := spanExactUptoRow.holds Try.pinned (OpenSpec.upto spanExactSpec)

/-- 'billhooklaw11.SpanTruth', WHERE WHAT IT READS IS OF BULK AT MOST 1048576: true; the input reads as it did. -/
def spanTruthUptoRow : OpenClaim := { program := "ytobomgckeoomkaa", sum := "5660b302bcd7b9288d8b9bb74cffccfe9d0b591adb7e10158d8fa329c5fda41c", func := "billhook/billhooklaw11.SpanTruth", spec := "spanTruth", unfollowed := true, recurses := true, apart := false, narrowed := true }
def SpanTruthUptoSaid : Prop := spanTruthUptoRow.holds Try.pinned (OpenSpec.upto spanTruthSpec)

/-- 'billhooklaw11.SpanHolds', WHERE WHAT IT READS IS OF BULK AT MOST 1048576: true; the input reads as it did. -/
def spanHoldsUptoRow : OpenClaim := { program := "ytobomgckeoomkaa", sum := "5660b302bcd7b9288d8b9bb74cffccfe9d0b591adb7e10158d8fa329c5fda41c", func := "billhook/billhooklaw11.SpanHolds", spec := "spanHolds", unfollowed := true, recurses := true, apart := false, narrowed := true }
def SpanHoldsUptoSaid : Prop := spanHoldsUptoRow.holds Try.pinned (OpenSpec.upto spanHoldsSpec)

end Rows
end Go.Proofs.Ytobomgckeoomkaa
