/- Eval: an element of xs, at a place that is not there. -/
import Derived.Test.YtalnancndjgmgaaGreatDoorEvA
namespace Go.Im
set_option linter.unusedVariables false
set_option maxRecDepth 100000
abbrev bX : ByteArray := bsM [120, 115]
abbrev bP : ByteArray := bsM [112]
/-- A number; n: what its list of kids is. -/
abbrev kidE (i : Int) (n : V) : V := .agg [.int false .i64 0, .str false (bsM []), .int true .i64 i, .str false (bsM []), n]
abbrev kidsE (i : Int) : V := .isl false [kidE i .nils]
/-- The expression b[i]. -/
abbrev ixE (b : ByteArray) (i : Int) : V := .agg [.int false .i64 2, .str false (bsM []), .int false .i64 0, .str false b, kidsE i]
abbrev fR : V := .fn (.func 30) [] []
abbrev hR : Heap := [some (Blk.mk [fR] 1 false false (some 72) false none)]
abbrev fA : V := .fn (.func 70) [] [.mptr 0 0 0]
abbrev yes : V := .bool false true
abbrev no : V := .bool false false
theorem ii (i : Int) : (i == i) = true := beq_self_eq_true i
theorem right_kid (i : Int) : Sim Go.Proofs.Tryz.prog 30 [kidE i (.isl false [])] [] yes [] :=
  sim_I (ps := [.br true]) (show run (I _) _ _ _ _ = some (True ∧ (i == i) = true, yes, []) by kernel_rfl) ⟨trivial, ii i⟩
theorem all1_kid (i : Int) : Sim Go.Proofs.Tryz.prog 70 [kidE i (.isl false []), .mptr 0 0 0] hR no hR :=
  sim_I (ps := [.res 30 yes []]) (show run (I _) _ _ _ _ = some (True ∧ Sim Go.Proofs.Tryz.prog 30 [kidE i (.isl false [])] [] yes [], no, hR) by kernel_rfl) ⟨trivial, right_kid i⟩
theorem index_kid (i : Int) : Sim Go.Proofs.Tryz.prog 103 [kidsE i, fA] hR (.int false .i64 (-1)) hR :=
  sim_I (ps := [.res 70 no hR]) (show run (I _) _ _ _ _ = some (True ∧ Sim Go.Proofs.Tryz.prog 70 [kidE i (.isl false []), .mptr 0 0 0] hR no hR, (.int false .i64 (-1)), hR) by kernel_rfl) ⟨trivial, all1_kid i⟩
theorem cont_kid (i : Int) : Sim Go.Proofs.Tryz.prog 69 [kidsE i, fA] hR no hR :=
  sim_I (ps := [.res 103 (.int false .i64 (-1)) hR]) (show run (I _) _ _ _ _ = some (True ∧ Sim Go.Proofs.Tryz.prog 103 [kidsE i, fA] hR (.int false .i64 (-1)) hR, no, hR) by kernel_rfl) ⟨trivial, index_kid i⟩
theorem all_kid (i : Int) : Sim Go.Proofs.Tryz.prog 48 [kidsE i, fR] [] yes [] :=
  sim_I (ps := [.res 69 no hR]) (show run (I _) _ _ _ _ = some (True ∧ Sim Go.Proofs.Tryz.prog 69 [kidsE i, fA] hR no hR, yes, []) by kernel_rfl) ⟨trivial, cont_kid i⟩
theorem rightX (i : Int) : Sim Go.Proofs.Tryz.prog 30 [ixE bX i] [] yes [] :=
  sim_I (ps := [.res 48 yes []]) (show run (I _) _ _ _ _ = some (True ∧ Sim Go.Proofs.Tryz.prog 48 [kidsE i, fR] [] yes [], yes, []) by kernel_rfl) ⟨trivial, all_kid i⟩
theorem rightP (i : Int) : Sim Go.Proofs.Tryz.prog 30 [ixE bP i] [] yes [] :=
  sim_I (ps := [.res 48 yes []]) (show run (I _) _ _ _ _ = some (True ∧ Sim Go.Proofs.Tryz.prog 48 [kidsE i, fR] [] yes [], yes, []) by kernel_rfl) ⟨trivial, all_kid i⟩
/-- No place of xs. -/
def Off (i : Int) : Prop := decide (i < 0) = true ∨ (decide (i < 0) = false ∧ decide (i ≥ 3) = true)
theorem find_off0 (i : Int) (h : Off i) : Sim Go.Proofs.Tryz.prog 38 [.mptr 0 0 0, .str false bX, .int true .i64 i, yes] (evH false z64 z64) .nilp (evH false z64 z64) := by
  rcases h with h | ⟨h0, h⟩
  · exact sim_I (ps := [.br true]) (show run (I _) _ _ _ _ = some (True ∧ decide (i < 0) = true, .nilp, (evH false z64 z64)) by kernel_rfl) ⟨trivial, h⟩
  · exact sim_I (ps := [.br false, .br true]) (show run (I _) _ _ _ _ = some ((True ∧ decide (i < 0) = false) ∧ decide (i ≥ 3) = true, .nilp, (evH false z64 z64)) by kernel_rfl) ⟨⟨trivial, h0⟩, h⟩
theorem at_off0 (i : Int) (h : Off i) : Sim Go.Proofs.Tryz.prog 19 [.mptr 0 0 0, .str false bX, .int true .i64 i] (evH false z64 z64) (.tup [.int false .i64 0, no]) (evH false z64 z64) :=
  sim_I (ps := [.res 38 .nilp (evH false z64 z64)]) (show run (I _) _ _ _ _ = some (True ∧ Sim Go.Proofs.Tryz.prog 38 [.mptr 0 0 0, .str false bX, .int true .i64 i, yes] (evH false z64 z64) .nilp (evH false z64 z64), (.tup [.int false .i64 0, no]), (evH false z64 z64)) by kernel_rfl) ⟨trivial, find_off0 i h⟩
theorem ix_off0 (i : Int) (h : Off i) : Sim Go.Proofs.Tryz.prog 99 [.mptr 0 0 0, ixE bX i] (evH false z64 z64) (.tup [.int false .i64 0, .int false .i64 3]) (evH false z64 z64) :=
  sim_I (ps := [.res 19 (.tup [.int false .i64 0, no]) (evH false z64 z64)]) (show run (I _) _ _ _ _ = some (True ∧ Sim Go.Proofs.Tryz.prog 19 [.mptr 0 0 0, .str false bX, .int true .i64 i] (evH false z64 z64) (.tup [.int false .i64 0, no]) (evH false z64 z64), (.tup [.int false .i64 0, .int false .i64 3]), (evH false z64 z64)) by kernel_rfl) ⟨trivial, at_off0 i h⟩
theorem evl_off0 (i : Int) (h : Off i) : Sim Go.Proofs.Tryz.prog 42 [.mptr 0 0 0, ixE bX i] (evH false z64 z64) (.tup [.int false .i64 0, .int false .i64 3]) (evH false z64 z64) :=
  sim_I (ps := [.res 99 (.tup [.int false .i64 0, .int false .i64 3]) (evH false z64 z64)]) (show run (I _) _ _ _ _ = some (True ∧ Sim Go.Proofs.Tryz.prog 99 [.mptr 0 0 0, ixE bX i] (evH false z64 z64) (.tup [.int false .i64 0, .int false .i64 3]) (evH false z64 z64), (.tup [.int false .i64 0, .int false .i64 3]), (evH false z64 z64)) by kernel_rfl) ⟨trivial, ix_off0 i h⟩
theorem eval_off0 (i : Int) (h : Off i) : Sim Go.Proofs.Tryz.prog 24 [.mptr 0 0 0, ixE bX i] (evH false z64 z64) (.tup [.int false .i64 0, .int false .i64 3]) (evH false z64 z64) :=
  sim_I (ps := [.res 30 yes [], .res 42 (.tup [.int false .i64 0, .int false .i64 3]) (evH false z64 z64)]) (show run (I _) _ _ _ _ = some ((True ∧ Sim Go.Proofs.Tryz.prog 30 [ixE bX i] [] yes []) ∧ Sim Go.Proofs.Tryz.prog 42 [.mptr 0 0 0, ixE bX i] (evH false z64 z64) (.tup [.int false .i64 0, .int false .i64 3]) (evH false z64 z64), (.tup [.int false .i64 0, .int false .i64 3]), (evH false z64 z64)) by kernel_rfl) ⟨⟨trivial, rightX i⟩, evl_off0 i h⟩
theorem eval_p0 (i : Int) : Sim Go.Proofs.Tryz.prog 24 [.mptr 0 0 0, ixE bP i] (evH false z64 z64) (.tup [.int false .i64 0, .int false .i64 3]) (evH false z64 z64) :=
  sim_I (ps := [.res 30 yes []]) (show run (I _) _ _ _ _ = some (True ∧ Sim Go.Proofs.Tryz.prog 30 [ixE bP i] [] yes [], (.tup [.int false .i64 0, .int false .i64 3]), (evH false z64 z64)) by kernel_rfl) ⟨trivial, rightP i⟩
theorem find_off1 (p : Int) (i : Int) (h : Off i) : Sim Go.Proofs.Tryz.prog 38 [.mptr 0 0 0, .str false bX, .int true .i64 i, yes] (evH false (.int true .i64 p) z64) .nilp (evH false (.int true .i64 p) z64) := by
  rcases h with h | ⟨h0, h⟩
  · exact sim_I (ps := [.br true]) (show run (I _) _ _ _ _ = some (True ∧ decide (i < 0) = true, .nilp, (evH false (.int true .i64 p) z64)) by kernel_rfl) ⟨trivial, h⟩
  · exact sim_I (ps := [.br false, .br true]) (show run (I _) _ _ _ _ = some ((True ∧ decide (i < 0) = false) ∧ decide (i ≥ 3) = true, .nilp, (evH false (.int true .i64 p) z64)) by kernel_rfl) ⟨⟨trivial, h0⟩, h⟩
theorem at_off1 (p : Int) (i : Int) (h : Off i) : Sim Go.Proofs.Tryz.prog 19 [.mptr 0 0 0, .str false bX, .int true .i64 i] (evH false (.int true .i64 p) z64) (.tup [.int false .i64 0, no]) (evH false (.int true .i64 p) z64) :=
  sim_I (ps := [.res 38 .nilp (evH false (.int true .i64 p) z64)]) (show run (I _) _ _ _ _ = some (True ∧ Sim Go.Proofs.Tryz.prog 38 [.mptr 0 0 0, .str false bX, .int true .i64 i, yes] (evH false (.int true .i64 p) z64) .nilp (evH false (.int true .i64 p) z64), (.tup [.int false .i64 0, no]), (evH false (.int true .i64 p) z64)) by kernel_rfl) ⟨trivial, find_off1 p i h⟩
theorem ix_off1 (p : Int) (i : Int) (h : Off i) : Sim Go.Proofs.Tryz.prog 99 [.mptr 0 0 0, ixE bX i] (evH false (.int true .i64 p) z64) (.tup [.int false .i64 0, .int false .i64 3]) (evH false (.int true .i64 p) z64) :=
  sim_I (ps := [.res 19 (.tup [.int false .i64 0, no]) (evH false (.int true .i64 p) z64)]) (show run (I _) _ _ _ _ = some (True ∧ Sim Go.Proofs.Tryz.prog 19 [.mptr 0 0 0, .str false bX, .int true .i64 i] (evH false (.int true .i64 p) z64) (.tup [.int false .i64 0, no]) (evH false (.int true .i64 p) z64), (.tup [.int false .i64 0, .int false .i64 3]), (evH false (.int true .i64 p) z64)) by kernel_rfl) ⟨trivial, at_off1 p i h⟩
theorem evl_off1 (p : Int) (i : Int) (h : Off i) : Sim Go.Proofs.Tryz.prog 42 [.mptr 0 0 0, ixE bX i] (evH false (.int true .i64 p) z64) (.tup [.int false .i64 0, .int false .i64 3]) (evH false (.int true .i64 p) z64) :=
  sim_I (ps := [.res 99 (.tup [.int false .i64 0, .int false .i64 3]) (evH false (.int true .i64 p) z64)]) (show run (I _) _ _ _ _ = some (True ∧ Sim Go.Proofs.Tryz.prog 99 [.mptr 0 0 0, ixE bX i] (evH false (.int true .i64 p) z64) (.tup [.int false .i64 0, .int false .i64 3]) (evH false (.int true .i64 p) z64), (.tup [.int false .i64 0, .int false .i64 3]), (evH false (.int true .i64 p) z64)) by kernel_rfl) ⟨trivial, ix_off1 p i h⟩
theorem eval_off1 (p : Int) (i : Int) (h : Off i) : Sim Go.Proofs.Tryz.prog 24 [.mptr 0 0 0, ixE bX i] (evH false (.int true .i64 p) z64) (.tup [.int false .i64 0, .int false .i64 3]) (evH false (.int true .i64 p) z64) :=
  sim_I (ps := [.res 30 yes [], .res 42 (.tup [.int false .i64 0, .int false .i64 3]) (evH false (.int true .i64 p) z64)]) (show run (I _) _ _ _ _ = some ((True ∧ Sim Go.Proofs.Tryz.prog 30 [ixE bX i] [] yes []) ∧ Sim Go.Proofs.Tryz.prog 42 [.mptr 0 0 0, ixE bX i] (evH false (.int true .i64 p) z64) (.tup [.int false .i64 0, .int false .i64 3]) (evH false (.int true .i64 p) z64), (.tup [.int false .i64 0, .int false .i64 3]), (evH false (.int true .i64 p) z64)) by kernel_rfl) ⟨⟨trivial, rightX i⟩, evl_off1 p i h⟩
theorem eval_p1 (p : Int) (i : Int) : Sim Go.Proofs.Tryz.prog 24 [.mptr 0 0 0, ixE bP i] (evH false (.int true .i64 p) z64) (.tup [.int false .i64 0, .int false .i64 3]) (evH false (.int true .i64 p) z64) :=
  sim_I (ps := [.res 30 yes []]) (show run (I _) _ _ _ _ = some (True ∧ Sim Go.Proofs.Tryz.prog 30 [ixE bP i] [] yes [], (.tup [.int false .i64 0, .int false .i64 3]), (evH false (.int true .i64 p) z64)) by kernel_rfl) ⟨trivial, rightP i⟩
theorem find_off2 (p a : Int) (i : Int) (h : Off i) : Sim Go.Proofs.Tryz.prog 38 [.mptr 0 0 0, .str false bX, .int true .i64 i, yes] (evH false (.int true .i64 p) (.int true .i64 a)) .nilp (evH false (.int true .i64 p) (.int true .i64 a)) := by
  rcases h with h | ⟨h0, h⟩
  · exact sim_I (ps := [.br true]) (show run (I _) _ _ _ _ = some (True ∧ decide (i < 0) = true, .nilp, (evH false (.int true .i64 p) (.int true .i64 a))) by kernel_rfl) ⟨trivial, h⟩
  · exact sim_I (ps := [.br false, .br true]) (show run (I _) _ _ _ _ = some ((True ∧ decide (i < 0) = false) ∧ decide (i ≥ 3) = true, .nilp, (evH false (.int true .i64 p) (.int true .i64 a))) by kernel_rfl) ⟨⟨trivial, h0⟩, h⟩
theorem at_off2 (p a : Int) (i : Int) (h : Off i) : Sim Go.Proofs.Tryz.prog 19 [.mptr 0 0 0, .str false bX, .int true .i64 i] (evH false (.int true .i64 p) (.int true .i64 a)) (.tup [.int false .i64 0, no]) (evH false (.int true .i64 p) (.int true .i64 a)) :=
  sim_I (ps := [.res 38 .nilp (evH false (.int true .i64 p) (.int true .i64 a))]) (show run (I _) _ _ _ _ = some (True ∧ Sim Go.Proofs.Tryz.prog 38 [.mptr 0 0 0, .str false bX, .int true .i64 i, yes] (evH false (.int true .i64 p) (.int true .i64 a)) .nilp (evH false (.int true .i64 p) (.int true .i64 a)), (.tup [.int false .i64 0, no]), (evH false (.int true .i64 p) (.int true .i64 a))) by kernel_rfl) ⟨trivial, find_off2 p a i h⟩
theorem ix_off2 (p a : Int) (i : Int) (h : Off i) : Sim Go.Proofs.Tryz.prog 99 [.mptr 0 0 0, ixE bX i] (evH false (.int true .i64 p) (.int true .i64 a)) (.tup [.int false .i64 0, .int false .i64 3]) (evH false (.int true .i64 p) (.int true .i64 a)) :=
  sim_I (ps := [.res 19 (.tup [.int false .i64 0, no]) (evH false (.int true .i64 p) (.int true .i64 a))]) (show run (I _) _ _ _ _ = some (True ∧ Sim Go.Proofs.Tryz.prog 19 [.mptr 0 0 0, .str false bX, .int true .i64 i] (evH false (.int true .i64 p) (.int true .i64 a)) (.tup [.int false .i64 0, no]) (evH false (.int true .i64 p) (.int true .i64 a)), (.tup [.int false .i64 0, .int false .i64 3]), (evH false (.int true .i64 p) (.int true .i64 a))) by kernel_rfl) ⟨trivial, at_off2 p a i h⟩
theorem evl_off2 (p a : Int) (i : Int) (h : Off i) : Sim Go.Proofs.Tryz.prog 42 [.mptr 0 0 0, ixE bX i] (evH false (.int true .i64 p) (.int true .i64 a)) (.tup [.int false .i64 0, .int false .i64 3]) (evH false (.int true .i64 p) (.int true .i64 a)) :=
  sim_I (ps := [.res 99 (.tup [.int false .i64 0, .int false .i64 3]) (evH false (.int true .i64 p) (.int true .i64 a))]) (show run (I _) _ _ _ _ = some (True ∧ Sim Go.Proofs.Tryz.prog 99 [.mptr 0 0 0, ixE bX i] (evH false (.int true .i64 p) (.int true .i64 a)) (.tup [.int false .i64 0, .int false .i64 3]) (evH false (.int true .i64 p) (.int true .i64 a)), (.tup [.int false .i64 0, .int false .i64 3]), (evH false (.int true .i64 p) (.int true .i64 a))) by kernel_rfl) ⟨trivial, ix_off2 p a i h⟩
theorem eval_off2 (p a : Int) (i : Int) (h : Off i) : Sim Go.Proofs.Tryz.prog 24 [.mptr 0 0 0, ixE bX i] (evH false (.int true .i64 p) (.int true .i64 a)) (.tup [.int false .i64 0, .int false .i64 3]) (evH false (.int true .i64 p) (.int true .i64 a)) :=
  sim_I (ps := [.res 30 yes [], .res 42 (.tup [.int false .i64 0, .int false .i64 3]) (evH false (.int true .i64 p) (.int true .i64 a))]) (show run (I _) _ _ _ _ = some ((True ∧ Sim Go.Proofs.Tryz.prog 30 [ixE bX i] [] yes []) ∧ Sim Go.Proofs.Tryz.prog 42 [.mptr 0 0 0, ixE bX i] (evH false (.int true .i64 p) (.int true .i64 a)) (.tup [.int false .i64 0, .int false .i64 3]) (evH false (.int true .i64 p) (.int true .i64 a)), (.tup [.int false .i64 0, .int false .i64 3]), (evH false (.int true .i64 p) (.int true .i64 a))) by kernel_rfl) ⟨⟨trivial, rightX i⟩, evl_off2 p a i h⟩
theorem eval_p2 (p a : Int) (i : Int) : Sim Go.Proofs.Tryz.prog 24 [.mptr 0 0 0, ixE bP i] (evH false (.int true .i64 p) (.int true .i64 a)) (.tup [.int false .i64 0, .int false .i64 3]) (evH false (.int true .i64 p) (.int true .i64 a)) :=
  sim_I (ps := [.res 30 yes []]) (show run (I _) _ _ _ _ = some (True ∧ Sim Go.Proofs.Tryz.prog 30 [ixE bP i] [] yes [], (.tup [.int false .i64 0, .int false .i64 3]), (evH false (.int true .i64 p) (.int true .i64 a))) by kernel_rfl) ⟨trivial, rightP i⟩
end Go.Im
