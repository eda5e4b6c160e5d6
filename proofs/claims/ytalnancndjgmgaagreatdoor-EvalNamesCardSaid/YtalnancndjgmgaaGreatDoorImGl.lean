/- The ideal machine: what the world must hold: the tables that the library reads. -/
import Derived.Test.YtalnancndjgmgaaGreatDoorProg
import Derived.Lib.AppendIntMem
namespace Go.Im
/-- A variable that holds an error. -/
def VarI (w : World) (n : String) : Prop := ∃ t p, w.var? Go.Proofs.Tryz.prog n = some #[.iface t p]
theorem VarI.below {w : World} {n : String} (h : VarI w n) : ∀ w', RowKit.Below w.heap.size w w' → VarI w' n := by
  intro w' hb
  obtain ⟨t, p, h⟩ := h
  refine ⟨t, p, ?_⟩
  unfold World.var? at *
  cases hg : Go.Proofs.Tryz.prog.globalNamed n with
  | none => simp [hg] at h
  | some g =>
    simp only [hg, Option.bind_some] at h ⊢
    have hlt : g < w.heap.size := by
      rcases Nat.lt_or_ge g w.heap.size with h' | h'
      · exact h'
      · rw [Array.getElem?_eq_none h'] at h; simp at h
    rw [hb.block g hlt]
    exact h
/-- The powers of ten, as the library's own initialiser lays them; the library's errors. -/
def GW (w : World) : Prop := Lib.TabIs Go.Proofs.Tryz.prog w "internal/strconv.uint64pow10" .u64 Lib.pow10Tab ∧ VarI w "strconv.ErrSyntax" ∧ VarI w "strconv.ErrRange"
theorem GW.below {w : World} (h : GW w) : ∀ w', RowKit.Below w.heap.size w w' → GW w' := fun w' hb => ⟨Lib.tabBelow_of_tabIs h.1 w' hb, h.2.1.below w' hb, h.2.2.below w' hb⟩
theorem GW.tab {w : World} (h : GW w) : Lib.TabIs Go.Proofs.Tryz.prog w "internal/strconv.uint64pow10" .u64 Lib.pow10Tab := h.1
end Go.Im
