/- The ideal machine: the closures that are quiet when they are deferred. -/
import Derived.Test.YtalnancndjgmgaaGreatDoorImExt
import Derived.Tactics
import Derived.Tactics2
import Derived.Recover
import Derived.Laws.Pointers
namespace Go.Im
open Go.Proofs
set_option linter.unusedVariables false
set_option maxRecDepth 100000
theorem below_alloc (w : World) (o : Obj) : RowKit.Below w.heap.size w (w.alloc o) := ⟨rfl, rfl, rfl, by show _ ≤ (w.heap.push o).size; rw [Array.size_push]; omega, fun k hk => by show (w.heap.push o)[k]? = _; rw [Array.getElem?_push_lt hk, Array.getElem?_eq_getElem hk]⟩
theorem hmixed0 : Go.Proofs.Tryz.prog.follows .mixedOrders = true := by kernel_rfl
theorem quietE : QuietF Tryz.prog 93 4 := by
  intro xs w hx
  have hta : ∀ w : World, (Instr.typeAssert .nilIface 20 141 true).run Tryz.prog w = .ok (.tuple #[.agg #[.int .i64 0, .int .i64 0], .bool false]) w := fun w => by rfl
  obtain ⟨l⟩ := xs
  obtain ⟨a, b, c, d, rfl⟩ : ∃ a b c d, l = [a, b, c, d] := by
    match l, hx with
    | [a, b, c, d], _ => exact ⟨a, b, c, d, rfl⟩
  refine callsD_of_wpS Tryz.func93 rfl fun c₀ cs hu => ?_
  apply wpS_seq
  apply wpS_region
  simp [wpOpsS, go_sem, recoverD, hu, Tryz.ntmps93, Exit.thenS]
  apply wpS_seq
  apply wpS_region
  simp [wpOpsS, go_sem, Exit.thenS, hta]
  apply wpS_seq
  apply wpS_region
  simp [wpOpsS, go_sem, Exit.thenS]
  refine wpS_cond (t := false) (by simp [Act.eval]) ?_
  simp only [Bool.false_eq_true, if_false]
  apply wpS_seq
  apply wpS_region
  simp [wpOpsS, go_sem, Exit.thenS]
  refine wpS_cond (t := false) (by simp [Act.eval]) ?_
  simp only [Bool.false_eq_true, if_false]
  refine wpS_of_wp (wp_skip ?_)
  cases c₀
  simp_all [bodyPostS, results, Tryz.results93]
  exact below_alloc w _
theorem quiet_nil {P : Program} : ∀ g n, (([] : List (FuncId × Nat)).any fun q => Nat.beq q.1 g && Nat.beq q.2 n) = true → QuietF P g n := fun _ _ h => by cases h
theorem quiet_cons {P : Program} {a b : Nat} {l : List (FuncId × Nat)} (h : QuietF P a b) (hl : ∀ g n, (l.any fun q => Nat.beq q.1 g && Nat.beq q.2 n) = true → QuietF P g n) :
    ∀ g n, (((a, b) :: l).any fun q => Nat.beq q.1 g && Nat.beq q.2 n) = true → QuietF P g n := by
  intro g n hg
  simp only [List.any_cons, Bool.or_eq_true, Bool.and_eq_true] at hg
  rcases hg with ⟨h1, h2⟩ | hg
  · rw [← Nat.eq_of_beq_eq_true h1, ← Nat.eq_of_beq_eq_true h2]; exact h
  · exact hl g n hg
theorem hmixed : PGood Go.Proofs.Tryz.prog := ⟨hmixed0,
  quiet_cons quietE <|
  quiet_nil⟩
end Go.Im
