/- TreeStmts: what the law computes is true. -/
import Derived.Test.YtfkfbjhegiffhaaGreatDoorTrA5
import Derived.Test.YtfkfbjhegiffhaaGreatDoorTrO
import Derived.Test.YtfkfbjhegiffhaaGreatDoorPlM
import Derived.Test.YtfkfbjhegiffhaaGreatDoorPlS
import Derived.Test.YtfkfbjhegiffhaaGreatDoorPlR
set_option linter.unusedVariables false
set_option linter.unusedSimpArgs false
set_option maxRecDepth 10000
namespace Go.Im
open Classical in
theorem Pure.TreeStmts {H : Type} {d0 d1 : DataW H} (a0 a1 : Law03Code) (g0 : Law03Code.gd a0 d0) (g1 : Law03Code.gd a1 d1) : ∃ n, S.law03_TreeStmts n a0 a1 = some true := by
  obtain ⟨ds0, _, _, _, ⟨_, _, hl0⟩, ⟨_, _, hg0⟩⟩ := g0
  obtain ⟨ds1, _, _, _, ⟨_, _, hl1⟩, ⟨_, _, hg1⟩⟩ := g1
  have hm : maxLen ≤ 9223372036854775807 := by decide
  obtain ⟨x0, r0, b0, b1, b, rfl, _, _, hb, wb⟩ := eu_own (P := a0.P) (Nat.le_trans hl0.1 hm) (Nat.le_trans hg0.1 hm)
  obtain ⟨x1, r1, c0, c1, c, rfl, _, _, hc, wc⟩ := eu_own (P := a1.P) (Nat.le_trans hl1.1 hm) (Nat.le_trans hg1.1 hm)
  have w : ∀ s ∈ b ++ c, WS 2 s := fun s hs => (List.mem_append.1 hs).elim (wb s) (wc s)
  have hbc : (b ++ c).length ≤ 28 := by rw [List.length_append]; omega
  have cb := cntL_ws wb (by decide) (by omega)
  have cc := cntL_ws wc (by decide) (by omega)
  have tb := txtL_ws wb (by decide) (by omega)
  have tc := txtL_ws wc (by decide) (by omega)
  have e1 : List.take (Int.toNat (↑(List.length (List.map TreeStmt.v b)) : Int) - Int.toNat 0) (List.drop (Int.toNat 0) (b ++ c)) = b := by simp
  have e2 : List.take (Int.toNat (↑(List.length ([] ++ List.map TreeStmt.v b ++ List.map TreeStmt.v c)) : Int) - Int.toNat (↑(List.length (List.map TreeStmt.v b)) : Int)) (List.drop (Int.toNat (↑(List.length (List.map TreeStmt.v b)) : Int)) (b ++ c)) = c := by
    simp only [List.nil_append, List.length_append, List.length_map, Int.toNat_natCast, List.drop_left]
    rw [show b.length + c.length - b.length = c.length by omega, List.take_length]
  have et : bs (txtL 0 (b ++ c)) = bs (txtL 0 b) ++ bs (txtL 0 c) := ba_ext (by simp [bl_app, bl_bs, txtL_app])
  refine Eu.get (Eu.eq (fun n => rfl) ?_)
  refine Eu.bd r0 (Eu.t rfl (Eu.bs (a := (⟨_, _, _, b⟩ : TreeFunc)) rfl (Eu.bd r1 (Eu.t rfl (Eu.bs (a := (⟨_, _, _, c⟩ : TreeFunc)) rfl ?_)))))
  dsimp only
  rw [List.nil_append b, e1, e2]
  refine Eu.t (decide_eq_true ?_) (Eu.t (decide_eq_true ?_) (Eu.bd (eu_count 2 _ (by decide) (by omega) w) (Eu.bd (eu_count 2 _ (by decide) (by omega) wb) (Eu.bd (eu_count 2 _ (by decide) (by omega) wc) (Eu.t ?_ ?_)))))
  · exact Nat.le_trans (m := 100) (by simp; omega) (by decide)
  · exact Nat.le_trans (m := 100) (by simp; omega) (by decide)
  · rw [wrap_id (by omega) (by omega), cntL_app]; simp
  refine Eu.bd (eu_putStmts (by decide) (by omega) w) (Eu.bd (eu_putStmts (by decide) (by omega) wb) (Eu.bd (eu_putStmts (by decide) (by omega) wc) (Eu.t (le63 ?_) (Eu.t ?_ ?_))))
  · simp only [size_bs]; omega
  · rw [et]; exact beq_self_eq_true _
  refine Eu.bd (eu_rightL 2 _ (by omega) w) (Eu.t rfl (Eu.t (inK_map (Nat.le_trans hb (by decide))) (Eu.t ?_ ?_)))
  · simp; omega
  refine Eu.bd (eu_sameL wb wb (by omega) (by omega)) (Eu.t (decide_eq_true rfl) (Eu.t ?_ ?_))
  · simp; omega
  refine Eu.bd (eu_sameL wc wc (by omega) (by omega)) (Eu.t (decide_eq_true rfl) (Eu.t (inK_map (Nat.le_trans hc (by decide))) (Eu.c (fun _ => Eu.ret rfl) fun hne => ?_)))
  refine Eu.bd (eu_sameL wb wc (by omega) (by omega)) (Eu.ret ?_)
  have : b ≠ c := fun h => by subst h; simp at hne
  rw [decide_eq_false this]; rfl
end Go.Im
