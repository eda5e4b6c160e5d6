import Derived.Test.YtobomgckeoomkaaSpK
set_option linter.unusedVariables false
set_option linter.unusedSimpArgs false
set_option maxRecDepth 100000
open Go Go.Im Go.Proofs.Try
def S.rbit (a : Bool) : Int := (bif a then (1) else (0))
theorem S.rbit_r0 (a : Bool) : run (envC prog imA 300 {} S.o_op) 81 [.bool true a] [] [.br true] = some (True ∧ a = true, .int false .i64 1, []) := by kernel_rfl
theorem S.rbit_r1 (a : Bool) : run (envC prog imA 300 {} S.o_op) 81 [.bool true a] [] [.br false] = some (True ∧ a = false, .int false .i64 0, []) := by kernel_rfl
theorem S.rbit_sim (a : Bool) : Sim prog 81 [.bool true a] [] (.int true .i64 (S.rbit a)) [] := by
 refine Sim.rng fun hrng => ?_
 try simp only [rngL, rngV, kLo, kHi] at hrng
 rcases Bool.eq_false_or_eq_true (a) with h0 | h0
 ·
  exact (sim_run (S.hE S.o_op_ok) (S.rbit_r0 a) ⟨trivial, h0⟩).says (Says.int (by simp only [S.rbit, h0, cond_true, cond_false]))
 ·
  exact (sim_run (S.hE S.o_op_ok) (S.rbit_r1 a) ⟨trivial, h0⟩).says (Says.int (by simp only [S.rbit, h0, cond_true, cond_false]))
def S.o_rbit : Orc := orcAdd 81 (fun | [.bool true a] => some (.int true .i64 (S.rbit a)) | _ => none) S.o_op
theorem S.o_rbit_ok : OrcOk prog S.o_rbit := orcAdd_ok S.o_op_ok fun a v h => by
  try dsimp only at h
  split at h
  · rename_i a; cases h; exact S.rbit_sim a
  · cases h
def S.rLevel (a : ByteArray) : Int := (bif ByteArray.toList { data := #[124, 124] } == ByteArray.toList a then (1) else (bif ByteArray.toList { data := #[38, 38] } == ByteArray.toList a then (2) else (bif ByteArray.toList { data := #[124] } == ByteArray.toList a then (3) else (bif ByteArray.toList { data := #[94] } == ByteArray.toList a then (4) else (bif ByteArray.toList { data := #[38] } == ByteArray.toList a then (5) else (bif ByteArray.toList { data := #[61, 61] } == ByteArray.toList a then (6) else (bif ByteArray.toList { data := #[33, 61] } == ByteArray.toList a then (6) else (bif ByteArray.toList { data := #[60] } == ByteArray.toList a then (7) else (bif ByteArray.toList { data := #[60, 61] } == ByteArray.toList a then (7) else (bif ByteArray.toList { data := #[62] } == ByteArray.toList a then (7) else (bif ByteArray.toList { data := #[62, 61] } == ByteArray.toList a then (7) else (bif ByteArray.toList { data := #[60, 60] } == ByteArray.toList a then (8) else (bif ByteArray.toList { data := #[62, 62] } == ByteArray.toList a then (8) else (bif ByteArray.toList { data := #[43] } == ByteArray.toList a then (9) else (bif ByteArray.toList { data := #[45] } == ByteArray.toList a then (9) else (bif ByteArray.toList { data := #[42] } == ByteArray.toList a then (10) else (bif ByteArray.toList { data := #[47] } == ByteArray.toList a then (10) else (bif ByteArray.toList { data := #[37] } == ByteArray.toList a then (10) else (0)))))))))))))))))))
theorem S.rLevel_r0 (a : ByteArray) : run (envC prog imA 300 {} S.o_rbit) 57 [.str true a] [] [.br true] = some (True ∧ (ByteArray.toList { data := #[124, 124] } == ByteArray.toList a) = true, .int false .i64 1, []) := by kernel_rfl
theorem S.rLevel_r1 (a : ByteArray) : run (envC prog imA 300 {} S.o_rbit) 57 [.str true a] [] [.br false, .br true] = some ((True ∧ (ByteArray.toList { data := #[124, 124] } == ByteArray.toList a) = false) ∧ (ByteArray.toList { data := #[38, 38] } == ByteArray.toList a) = true, .int false .i64 2, []) := by kernel_rfl
theorem S.rLevel_r2 (a : ByteArray) : run (envC prog imA 300 {} S.o_rbit) 57 [.str true a] [] [.br false, .br false, .br true] = some (((True ∧ (ByteArray.toList { data := #[124, 124] } == ByteArray.toList a) = false) ∧ (ByteArray.toList { data := #[38, 38] } == ByteArray.toList a) = false) ∧ (ByteArray.toList { data := #[124] } == ByteArray.toList a) = true, .int false .i64 3, []) := by kernel_rfl
theorem S.rLevel_r3 (a : ByteArray) : run (envC prog imA 300 {} S.o_rbit) 57 [.str true a] [] [.br false, .br false, .br false, .br true] = some ((((True ∧ (ByteArray.toList { data := #[124, 124] } == ByteArray.toList a) = false) ∧ (ByteArray.toList { data := #[38, 38] } == ByteArray.toList a) = false) ∧ (ByteArray.toList { data := #[124] } == ByteArray.toList a) = false) ∧ (ByteArray.toList { data := #[94] } == ByteArray.toList a) = true, .int false .i64 4, []) := by kernel_rfl
theorem S.rLevel_r4 (a : ByteArray) : run (envC prog imA 300 {} S.o_rbit) 57 [.str true a] [] [.br false, .br false, .br false, .br false, .br true] = some (((((True ∧ (ByteArray.toList { data := #[124, 124] } == ByteArray.toList a) = false) ∧ (ByteArray.toList { data := #[38, 38] } == ByteArray.toList a) = false) ∧ (ByteArray.toList { data := #[124] } == ByteArray.toList a) = false) ∧ (ByteArray.toList { data := #[94] } == ByteArray.toList a) = false) ∧ (ByteArray.toList { data := #[38] } == ByteArray.toList a) = true, .int false .i64 5, []) := by kernel_rfl
theorem S.rLevel_r5 (a : ByteArray) : run (envC prog imA 300 {} S.o_rbit) 57 [.str true a] [] [.br false, .br false, .br false, .br false, .br false, .br true] = some ((((((True ∧ (ByteArray.toList { data := #[124, 124] } == ByteArray.toList a) = false) ∧ (ByteArray.toList { data := #[38, 38] } == ByteArray.toList a) = false) ∧ (ByteArray.toList { data := #[124] } == ByteArray.toList a) = false) ∧ (ByteArray.toList { data := #[94] } == ByteArray.toList a) = false) ∧ (ByteArray.toList { data := #[38] } == ByteArray.toList a) = false) ∧ (ByteArray.toList { data := #[61, 61] } == ByteArray.toList a) = true, .int false .i64 6, []) := by kernel_rfl
theorem S.rLevel_r6 (a : ByteArray) : run (envC prog imA 300 {} S.o_rbit) 57 [.str true a] [] [.br false, .br false, .br false, .br false, .br false, .br false, .br true] = some (((((((True ∧ (ByteArray.toList { data := #[124, 124] } == ByteArray.toList a) = false) ∧ (ByteArray.toList { data := #[38, 38] } == ByteArray.toList a) = false) ∧ (ByteArray.toList { data := #[124] } == ByteArray.toList a) = false) ∧ (ByteArray.toList { data := #[94] } == ByteArray.toList a) = false) ∧ (ByteArray.toList { data := #[38] } == ByteArray.toList a) = false) ∧ (ByteArray.toList { data := #[61, 61] } == ByteArray.toList a) = false) ∧ (ByteArray.toList { data := #[33, 61] } == ByteArray.toList a) = true, .int false .i64 6, []) := by kernel_rfl
theorem S.rLevel_r7 (a : ByteArray) : run (envC prog imA 300 {} S.o_rbit) 57 [.str true a] [] [.br false, .br false, .br false, .br false, .br false, .br false, .br false, .br true] = some ((((((((True ∧ (ByteArray.toList { data := #[124, 124] } == ByteArray.toList a) = false) ∧ (ByteArray.toList { data := #[38, 38] } == ByteArray.toList a) = false) ∧ (ByteArray.toList { data := #[124] } == ByteArray.toList a) = false) ∧ (ByteArray.toList { data := #[94] } == ByteArray.toList a) = false) ∧ (ByteArray.toList { data := #[38] } == ByteArray.toList a) = false) ∧ (ByteArray.toList { data := #[61, 61] } == ByteArray.toList a) = false) ∧ (ByteArray.toList { data := #[33, 61] } == ByteArray.toList a) = false) ∧ (ByteArray.toList { data := #[60] } == ByteArray.toList a) = true, .int false .i64 7, []) := by kernel_rfl
theorem S.rLevel_r8 (a : ByteArray) : run (envC prog imA 300 {} S.o_rbit) 57 [.str true a] [] [.br false, .br false, .br false, .br false, .br false, .br false, .br false, .br false, .br true] = some (((((((((True ∧ (ByteArray.toList { data := #[124, 124] } == ByteArray.toList a) = false) ∧ (ByteArray.toList { data := #[38, 38] } == ByteArray.toList a) = false) ∧ (ByteArray.toList { data := #[124] } == ByteArray.toList a) = false) ∧ (ByteArray.toList { data := #[94] } == ByteArray.toList a) = false) ∧ (ByteArray.toList { data := #[38] } == ByteArray.toList a) = false) ∧ (ByteArray.toList { data := #[61, 61] } == ByteArray.toList a) = false) ∧ (ByteArray.toList { data := #[33, 61] } == ByteArray.toList a) = false) ∧ (ByteArray.toList { data := #[60] } == ByteArray.toList a) = false) ∧ (ByteArray.toList { data := #[60, 61] } == ByteArray.toList a) = true, .int false .i64 7, []) := by kernel_rfl
theorem S.rLevel_r9 (a : ByteArray) : run (envC prog imA 300 {} S.o_rbit) 57 [.str true a] [] [.br false, .br false, .br false, .br false, .br false, .br false, .br false, .br false, .br false, .br true] = some ((((((((((True ∧ (ByteArray.toList { data := #[124, 124] } == ByteArray.toList a) = false) ∧ (ByteArray.toList { data := #[38, 38] } == ByteArray.toList a) = false) ∧ (ByteArray.toList { data := #[124] } == ByteArray.toList a) = false) ∧ (ByteArray.toList { data := #[94] } == ByteArray.toList a) = false) ∧ (ByteArray.toList { data := #[38] } == ByteArray.toList a) = false) ∧ (ByteArray.toList { data := #[61, 61] } == ByteArray.toList a) = false) ∧ (ByteArray.toList { data := #[33, 61] } == ByteArray.toList a) = false) ∧ (ByteArray.toList { data := #[60] } == ByteArray.toList a) = false) ∧ (ByteArray.toList { data := #[60, 61] } == ByteArray.toList a) = false) ∧ (ByteArray.toList { data := #[62] } == ByteArray.toList a) = true, .int false .i64 7, []) := by kernel_rfl
theorem S.rLevel_r10 (a : ByteArray) : run (envC prog imA 300 {} S.o_rbit) 57 [.str true a] [] [.br false, .br false, .br false, .br false, .br false, .br false, .br false, .br false, .br false, .br false, .br true] = some (((((((((((True ∧ (ByteArray.toList { data := #[124, 124] } == ByteArray.toList a) = false) ∧ (ByteArray.toList { data := #[38, 38] } == ByteArray.toList a) = false) ∧ (ByteArray.toList { data := #[124] } == ByteArray.toList a) = false) ∧ (ByteArray.toList { data := #[94] } == ByteArray.toList a) = false) ∧ (ByteArray.toList { data := #[38] } == ByteArray.toList a) = false) ∧ (ByteArray.toList { data := #[61, 61] } == ByteArray.toList a) = false) ∧ (ByteArray.toList { data := #[33, 61] } == ByteArray.toList a) = false) ∧ (ByteArray.toList { data := #[60] } == ByteArray.toList a) = false) ∧ (ByteArray.toList { data := #[60, 61] } == ByteArray.toList a) = false) ∧ (ByteArray.toList { data := #[62] } == ByteArray.toList a) = false) ∧ (ByteArray.toList { data := #[62, 61] } == ByteArray.toList a) = true, .int false .i64 7, []) := by kernel_rfl
theorem S.rLevel_r11 (a : ByteArray) : run (envC prog imA 300 {} S.o_rbit) 57 [.str true a] [] [.br false, .br false, .br false, .br false, .br false, .br false, .br false, .br false, .br false, .br false, .br false, .br true] = some ((((((((((((True ∧ (ByteArray.toList { data := #[124, 124] } == ByteArray.toList a) = false) ∧ (ByteArray.toList { data := #[38, 38] } == ByteArray.toList a) = false) ∧ (ByteArray.toList { data := #[124] } == ByteArray.toList a) = false) ∧ (ByteArray.toList { data := #[94] } == ByteArray.toList a) = false) ∧ (ByteArray.toList { data := #[38] } == ByteArray.toList a) = false) ∧ (ByteArray.toList { data := #[61, 61] } == ByteArray.toList a) = false) ∧ (ByteArray.toList { data := #[33, 61] } == ByteArray.toList a) = false) ∧ (ByteArray.toList { data := #[60] } == ByteArray.toList a) = false) ∧ (ByteArray.toList { data := #[60, 61] } == ByteArray.toList a) = false) ∧ (ByteArray.toList { data := #[62] } == ByteArray.toList a) = false) ∧ (ByteArray.toList { data := #[62, 61] } == ByteArray.toList a) = false) ∧ (ByteArray.toList { data := #[60, 60] } == ByteArray.toList a) = true, .int false .i64 8, []) := by kernel_rfl
theorem S.rLevel_r12 (a : ByteArray) : run (envC prog imA 300 {} S.o_rbit) 57 [.str true a] [] [.br false, .br false, .br false, .br false, .br false, .br false, .br false, .br false, .br false, .br false, .br false, .br false, .br true] = some (((((((((((((True ∧ (ByteArray.toList { data := #[124, 124] } == ByteArray.toList a) = false) ∧ (ByteArray.toList { data := #[38, 38] } == ByteArray.toList a) = false) ∧ (ByteArray.toList { data := #[124] } == ByteArray.toList a) = false) ∧ (ByteArray.toList { data := #[94] } == ByteArray.toList a) = false) ∧ (ByteArray.toList { data := #[38] } == ByteArray.toList a) = false) ∧ (ByteArray.toList { data := #[61, 61] } == ByteArray.toList a) = false) ∧ (ByteArray.toList { data := #[33, 61] } == ByteArray.toList a) = false) ∧ (ByteArray.toList { data := #[60] } == ByteArray.toList a) = false) ∧ (ByteArray.toList { data := #[60, 61] } == ByteArray.toList a) = false) ∧ (ByteArray.toList { data := #[62] } == ByteArray.toList a) = false) ∧ (ByteArray.toList { data := #[62, 61] } == ByteArray.toList a) = false) ∧ (ByteArray.toList { data := #[60, 60] } == ByteArray.toList a) = false) ∧ (ByteArray.toList { data := #[62, 62] } == ByteArray.toList a) = true, .int false .i64 8, []) := by kernel_rfl
theorem S.rLevel_r13 (a : ByteArray) : run (envC prog imA 300 {} S.o_rbit) 57 [.str true a] [] [.br false, .br false, .br false, .br false, .br false, .br false, .br false, .br false, .br false, .br false, .br false, .br false, .br false, .br true] = some ((((((((((((((True ∧ (ByteArray.toList { data := #[124, 124] } == ByteArray.toList a) = false) ∧ (ByteArray.toList { data := #[38, 38] } == ByteArray.toList a) = false) ∧ (ByteArray.toList { data := #[124] } == ByteArray.toList a) = false) ∧ (ByteArray.toList { data := #[94] } == ByteArray.toList a) = false) ∧ (ByteArray.toList { data := #[38] } == ByteArray.toList a) = false) ∧ (ByteArray.toList { data := #[61, 61] } == ByteArray.toList a) = false) ∧ (ByteArray.toList { data := #[33, 61] } == ByteArray.toList a) = false) ∧ (ByteArray.toList { data := #[60] } == ByteArray.toList a) = false) ∧ (ByteArray.toList { data := #[60, 61] } == ByteArray.toList a) = false) ∧ (ByteArray.toList { data := #[62] } == ByteArray.toList a) = false) ∧ (ByteArray.toList { data := #[62, 61] } == ByteArray.toList a) = false) ∧ (ByteArray.toList { data := #[60, 60] } == ByteArray.toList a) = false) ∧ (ByteArray.toList { data := #[62, 62] } == ByteArray.toList a) = false) ∧ (ByteArray.toList { data := #[43] } == ByteArray.toList a) = true, .int false .i64 9, []) := by kernel_rfl
theorem S.rLevel_r14 (a : ByteArray) : run (envC prog imA 300 {} S.o_rbit) 57 [.str true a] [] [.br false, .br false, .br false, .br false, .br false, .br false, .br false, .br false, .br false, .br false, .br false, .br false, .br false, .br false, .br true] = some (((((((((((((((True ∧ (ByteArray.toList { data := #[124, 124] } == ByteArray.toList a) = false) ∧ (ByteArray.toList { data := #[38, 38] } == ByteArray.toList a) = false) ∧ (ByteArray.toList { data := #[124] } == ByteArray.toList a) = false) ∧ (ByteArray.toList { data := #[94] } == ByteArray.toList a) = false) ∧ (ByteArray.toList { data := #[38] } == ByteArray.toList a) = false) ∧ (ByteArray.toList { data := #[61, 61] } == ByteArray.toList a) = false) ∧ (ByteArray.toList { data := #[33, 61] } == ByteArray.toList a) = false) ∧ (ByteArray.toList { data := #[60] } == ByteArray.toList a) = false) ∧ (ByteArray.toList { data := #[60, 61] } == ByteArray.toList a) = false) ∧ (ByteArray.toList { data := #[62] } == ByteArray.toList a) = false) ∧ (ByteArray.toList { data := #[62, 61] } == ByteArray.toList a) = false) ∧ (ByteArray.toList { data := #[60, 60] } == ByteArray.toList a) = false) ∧ (ByteArray.toList { data := #[62, 62] } == ByteArray.toList a) = false) ∧ (ByteArray.toList { data := #[43] } == ByteArray.toList a) = false) ∧ (ByteArray.toList { data := #[45] } == ByteArray.toList a) = true, .int false .i64 9, []) := by kernel_rfl
theorem S.rLevel_r15 (a : ByteArray) : run (envC prog imA 300 {} S.o_rbit) 57 [.str true a] [] [.br false, .br false, .br false, .br false, .br false, .br false, .br false, .br false, .br false, .br false, .br false, .br false, .br false, .br false, .br false, .br true] = some ((((((((((((((((True ∧ (ByteArray.toList { data := #[124, 124] } == ByteArray.toList a) = false) ∧ (ByteArray.toList { data := #[38, 38] } == ByteArray.toList a) = false) ∧ (ByteArray.toList { data := #[124] } == ByteArray.toList a) = false) ∧ (ByteArray.toList { data := #[94] } == ByteArray.toList a) = false) ∧ (ByteArray.toList { data := #[38] } == ByteArray.toList a) = false) ∧ (ByteArray.toList { data := #[61, 61] } == ByteArray.toList a) = false) ∧ (ByteArray.toList { data := #[33, 61] } == ByteArray.toList a) = false) ∧ (ByteArray.toList { data := #[60] } == ByteArray.toList a) = false) ∧ (ByteArray.toList { data := #[60, 61] } == ByteArray.toList a) = false) ∧ (ByteArray.toList { data := #[62] } == ByteArray.toList a) = false) ∧ (ByteArray.toList { data := #[62, 61] } == ByteArray.toList a) = false) ∧ (ByteArray.toList { data := #[60, 60] } == ByteArray.toList a) = false) ∧ (ByteArray.toList { data := #[62, 62] } == ByteArray.toList a) = false) ∧ (ByteArray.toList { data := #[43] } == ByteArray.toList a) = false) ∧ (ByteArray.toList { data := #[45] } == ByteArray.toList a) = false) ∧ (ByteArray.toList { data := #[42] } == ByteArray.toList a) = true, .int false .i64 10, []) := by kernel_rfl
theorem S.rLevel_r16 (a : ByteArray) : run (envC prog imA 300 {} S.o_rbit) 57 [.str true a] [] [.br false, .br false, .br false, .br false, .br false, .br false, .br false, .br false, .br false, .br false, .br false, .br false, .br false, .br false, .br false, .br false, .br true] = some (((((((((((((((((True ∧ (ByteArray.toList { data := #[124, 124] } == ByteArray.toList a) = false) ∧ (ByteArray.toList { data := #[38, 38] } == ByteArray.toList a) = false) ∧ (ByteArray.toList { data := #[124] } == ByteArray.toList a) = false) ∧ (ByteArray.toList { data := #[94] } == ByteArray.toList a) = false) ∧ (ByteArray.toList { data := #[38] } == ByteArray.toList a) = false) ∧ (ByteArray.toList { data := #[61, 61] } == ByteArray.toList a) = false) ∧ (ByteArray.toList { data := #[33, 61] } == ByteArray.toList a) = false) ∧ (ByteArray.toList { data := #[60] } == ByteArray.toList a) = false) ∧ (ByteArray.toList { data := #[60, 61] } == ByteArray.toList a) = false) ∧ (ByteArray.toList { data := #[62] } == ByteArray.toList a) = false) ∧ (ByteArray.toList { data := #[62, 61] } == ByteArray.toList a) = false) ∧ (ByteArray.toList { data := #[60, 60] } == ByteArray.toList a) = false) ∧ (ByteArray.toList { data := #[62, 62] } == ByteArray.toList a) = false) ∧ (ByteArray.toList { data := #[43] } == ByteArray.toList a) = false) ∧ (ByteArray.toList { data := #[45] } == ByteArray.toList a) = false) ∧ (ByteArray.toList { data := #[42] } == ByteArray.toList a) = false) ∧ (ByteArray.toList { data := #[47] } == ByteArray.toList a) = true, .int false .i64 10, []) := by kernel_rfl
theorem S.rLevel_r17 (a : ByteArray) : run (envC prog imA 300 {} S.o_rbit) 57 [.str true a] [] [.br false, .br false, .br false, .br false, .br false, .br false, .br false, .br false, .br false, .br false, .br false, .br false, .br false, .br false, .br false, .br false, .br false, .br true] = some ((((((((((((((((((True ∧ (ByteArray.toList { data := #[124, 124] } == ByteArray.toList a) = false) ∧ (ByteArray.toList { data := #[38, 38] } == ByteArray.toList a) = false) ∧ (ByteArray.toList { data := #[124] } == ByteArray.toList a) = false) ∧ (ByteArray.toList { data := #[94] } == ByteArray.toList a) = false) ∧ (ByteArray.toList { data := #[38] } == ByteArray.toList a) = false) ∧ (ByteArray.toList { data := #[61, 61] } == ByteArray.toList a) = false) ∧ (ByteArray.toList { data := #[33, 61] } == ByteArray.toList a) = false) ∧ (ByteArray.toList { data := #[60] } == ByteArray.toList a) = false) ∧ (ByteArray.toList { data := #[60, 61] } == ByteArray.toList a) = false) ∧ (ByteArray.toList { data := #[62] } == ByteArray.toList a) = false) ∧ (ByteArray.toList { data := #[62, 61] } == ByteArray.toList a) = false) ∧ (ByteArray.toList { data := #[60, 60] } == ByteArray.toList a) = false) ∧ (ByteArray.toList { data := #[62, 62] } == ByteArray.toList a) = false) ∧ (ByteArray.toList { data := #[43] } == ByteArray.toList a) = false) ∧ (ByteArray.toList { data := #[45] } == ByteArray.toList a) = false) ∧ (ByteArray.toList { data := #[42] } == ByteArray.toList a) = false) ∧ (ByteArray.toList { data := #[47] } == ByteArray.toList a) = false) ∧ (ByteArray.toList { data := #[37] } == ByteArray.toList a) = true, .int false .i64 10, []) := by kernel_rfl
theorem S.rLevel_r18 (a : ByteArray) : run (envC prog imA 300 {} S.o_rbit) 57 [.str true a] [] [.br false, .br false, .br false, .br false, .br false, .br false, .br false, .br false, .br false, .br false, .br false, .br false, .br false, .br false, .br false, .br false, .br false, .br false] = some ((((((((((((((((((True ∧ (ByteArray.toList { data := #[124, 124] } == ByteArray.toList a) = false) ∧ (ByteArray.toList { data := #[38, 38] } == ByteArray.toList a) = false) ∧ (ByteArray.toList { data := #[124] } == ByteArray.toList a) = false) ∧ (ByteArray.toList { data := #[94] } == ByteArray.toList a) = false) ∧ (ByteArray.toList { data := #[38] } == ByteArray.toList a) = false) ∧ (ByteArray.toList { data := #[61, 61] } == ByteArray.toList a) = false) ∧ (ByteArray.toList { data := #[33, 61] } == ByteArray.toList a) = false) ∧ (ByteArray.toList { data := #[60] } == ByteArray.toList a) = false) ∧ (ByteArray.toList { data := #[60, 61] } == ByteArray.toList a) = false) ∧ (ByteArray.toList { data := #[62] } == ByteArray.toList a) = false) ∧ (ByteArray.toList { data := #[62, 61] } == ByteArray.toList a) = false) ∧ (ByteArray.toList { data := #[60, 60] } == ByteArray.toList a) = false) ∧ (ByteArray.toList { data := #[62, 62] } == ByteArray.toList a) = false) ∧ (ByteArray.toList { data := #[43] } == ByteArray.toList a) = false) ∧ (ByteArray.toList { data := #[45] } == ByteArray.toList a) = false) ∧ (ByteArray.toList { data := #[42] } == ByteArray.toList a) = false) ∧ (ByteArray.toList { data := #[47] } == ByteArray.toList a) = false) ∧ (ByteArray.toList { data := #[37] } == ByteArray.toList a) = false, .int false .i64 0, []) := by kernel_rfl
theorem S.rLevel_sim (a : ByteArray) : Sim prog 57 [.str true a] [] (.int true .i64 (S.rLevel a)) [] := by
 refine Sim.rng fun hrng => ?_
 try simp only [rngL, rngV, kLo, kHi] at hrng
 rcases Bool.eq_false_or_eq_true (ByteArray.toList { data := #[124, 124] } == ByteArray.toList a) with h0 | h0
 ·
  exact (sim_run (S.hE S.o_rbit_ok) (S.rLevel_r0 a) ⟨trivial, h0⟩).says (Says.int (by simp only [S.rLevel, h0, cond_true, cond_false]))
 ·
  rcases Bool.eq_false_or_eq_true (ByteArray.toList { data := #[38, 38] } == ByteArray.toList a) with h1 | h1
  ·
   exact (sim_run (S.hE S.o_rbit_ok) (S.rLevel_r1 a) ⟨⟨trivial, h0⟩, h1⟩).says (Says.int (by simp only [S.rLevel, h1, h0, cond_true, cond_false]))
  ·
   rcases Bool.eq_false_or_eq_true (ByteArray.toList { data := #[124] } == ByteArray.toList a) with h2 | h2
   ·
    exact (sim_run (S.hE S.o_rbit_ok) (S.rLevel_r2 a) ⟨⟨⟨trivial, h0⟩, h1⟩, h2⟩).says (Says.int (by simp only [S.rLevel, h2, h1, h0, cond_true, cond_false]))
   ·
    rcases Bool.eq_false_or_eq_true (ByteArray.toList { data := #[94] } == ByteArray.toList a) with h3 | h3
    ·
     exact (sim_run (S.hE S.o_rbit_ok) (S.rLevel_r3 a) ⟨⟨⟨⟨trivial, h0⟩, h1⟩, h2⟩, h3⟩).says (Says.int (by simp only [S.rLevel, h3, h2, h1, h0, cond_true, cond_false]))
    ·
     rcases Bool.eq_false_or_eq_true (ByteArray.toList { data := #[38] } == ByteArray.toList a) with h4 | h4
     ·
      exact (sim_run (S.hE S.o_rbit_ok) (S.rLevel_r4 a) ⟨⟨⟨⟨⟨trivial, h0⟩, h1⟩, h2⟩, h3⟩, h4⟩).says (Says.int (by simp only [S.rLevel, h4, h3, h2, h1, h0, cond_true, cond_false]))
     ·
      rcases Bool.eq_false_or_eq_true (ByteArray.toList { data := #[61, 61] } == ByteArray.toList a) with h5 | h5
      ·
       exact (sim_run (S.hE S.o_rbit_ok) (S.rLevel_r5 a) ⟨⟨⟨⟨⟨⟨trivial, h0⟩, h1⟩, h2⟩, h3⟩, h4⟩, h5⟩).says (Says.int (by simp only [S.rLevel, h5, h4, h3, h2, h1, h0, cond_true, cond_false]))
      ·
       rcases Bool.eq_false_or_eq_true (ByteArray.toList { data := #[33, 61] } == ByteArray.toList a) with h6 | h6
       ·
        exact (sim_run (S.hE S.o_rbit_ok) (S.rLevel_r6 a) ⟨⟨⟨⟨⟨⟨⟨trivial, h0⟩, h1⟩, h2⟩, h3⟩, h4⟩, h5⟩, h6⟩).says (Says.int (by simp only [S.rLevel, h6, h5, h4, h3, h2, h1, h0, cond_true, cond_false]))
       ·
        rcases Bool.eq_false_or_eq_true (ByteArray.toList { data := #[60] } == ByteArray.toList a) with h7 | h7
        ·
         exact (sim_run (S.hE S.o_rbit_ok) (S.rLevel_r7 a) ⟨⟨⟨⟨⟨⟨⟨⟨trivial, h0⟩, h1⟩, h2⟩, h3⟩, h4⟩, h5⟩, h6⟩, h7⟩).says (Says.int (by simp only [S.rLevel, h7, h6, h5, h4, h3, h2, h1, h0, cond_true, cond_false]))
        ·
         rcases Bool.eq_false_or_eq_true (ByteArray.toList { data := #[60, 61] } == ByteArray.toList a) with h8 | h8
         ·
          exact (sim_run (S.hE S.o_rbit_ok) (S.rLevel_r8 a) ⟨⟨⟨⟨⟨⟨⟨⟨⟨trivial, h0⟩, h1⟩, h2⟩, h3⟩, h4⟩, h5⟩, h6⟩, h7⟩, h8⟩).says (Says.int (by simp only [S.rLevel, h8, h7, h6, h5, h4, h3, h2, h1, h0, cond_true, cond_false]))
         ·
          rcases Bool.eq_false_or_eq_true (ByteArray.toList { data := #[62] } == ByteArray.toList a) with h9 | h9
          ·
           exact (sim_run (S.hE S.o_rbit_ok) (S.rLevel_r9 a) ⟨⟨⟨⟨⟨⟨⟨⟨⟨⟨trivial, h0⟩, h1⟩, h2⟩, h3⟩, h4⟩, h5⟩, h6⟩, h7⟩, h8⟩, h9⟩).says (Says.int (by simp only [S.rLevel, h9, h8, h7, h6, h5, h4, h3, h2, h1, h0, cond_true, cond_false]))
          ·
           rcases Bool.eq_false_or_eq_true (ByteArray.toList { data := #[62, 61] } == ByteArray.toList a) with h10 | h10
           ·
            exact (sim_run (S.hE S.o_rbit_ok) (S.rLevel_r10 a) ⟨⟨⟨⟨⟨⟨⟨⟨⟨⟨⟨trivial, h0⟩, h1⟩, h2⟩, h3⟩, h4⟩, h5⟩, h6⟩, h7⟩, h8⟩, h9⟩, h10⟩).says (Says.int (by simp only [S.rLevel, h10, h9, h8, h7, h6, h5, h4, h3, h2, h1, h0, cond_true, cond_false]))
           ·
            rcases Bool.eq_false_or_eq_true (ByteArray.toList { data := #[60, 60] } == ByteArray.toList a) with h11 | h11
            ·
             exact (sim_run (S.hE S.o_rbit_ok) (S.rLevel_r11 a) ⟨⟨⟨⟨⟨⟨⟨⟨⟨⟨⟨⟨trivial, h0⟩, h1⟩, h2⟩, h3⟩, h4⟩, h5⟩, h6⟩, h7⟩, h8⟩, h9⟩, h10⟩, h11⟩).says (Says.int (by simp only [S.rLevel, h11, h10, h9, h8, h7, h6, h5, h4, h3, h2, h1, h0, cond_true, cond_false]))
            ·
             rcases Bool.eq_false_or_eq_true (ByteArray.toList { data := #[62, 62] } == ByteArray.toList a) with h12 | h12
             ·
              exact (sim_run (S.hE S.o_rbit_ok) (S.rLevel_r12 a) ⟨⟨⟨⟨⟨⟨⟨⟨⟨⟨⟨⟨⟨trivial, h0⟩, h1⟩, h2⟩, h3⟩, h4⟩, h5⟩, h6⟩, h7⟩, h8⟩, h9⟩, h10⟩, h11⟩, h12⟩).says (Says.int (by simp only [S.rLevel, h12, h11, h10, h9, h8, h7, h6, h5, h4, h3, h2, h1, h0, cond_true, cond_false]))
             ·
              rcases Bool.eq_false_or_eq_true (ByteArray.toList { data := #[43] } == ByteArray.toList a) with h13 | h13
              ·
               exact (sim_run (S.hE S.o_rbit_ok) (S.rLevel_r13 a) ⟨⟨⟨⟨⟨⟨⟨⟨⟨⟨⟨⟨⟨⟨trivial, h0⟩, h1⟩, h2⟩, h3⟩, h4⟩, h5⟩, h6⟩, h7⟩, h8⟩, h9⟩, h10⟩, h11⟩, h12⟩, h13⟩).says (Says.int (by simp only [S.rLevel, h13, h12, h11, h10, h9, h8, h7, h6, h5, h4, h3, h2, h1, h0, cond_true, cond_false]))
              ·
               rcases Bool.eq_false_or_eq_true (ByteArray.toList { data := #[45] } == ByteArray.toList a) with h14 | h14
               ·
                exact (sim_run (S.hE S.o_rbit_ok) (S.rLevel_r14 a) ⟨⟨⟨⟨⟨⟨⟨⟨⟨⟨⟨⟨⟨⟨⟨trivial, h0⟩, h1⟩, h2⟩, h3⟩, h4⟩, h5⟩, h6⟩, h7⟩, h8⟩, h9⟩, h10⟩, h11⟩, h12⟩, h13⟩, h14⟩).says (Says.int (by simp only [S.rLevel, h14, h13, h12, h11, h10, h9, h8, h7, h6, h5, h4, h3, h2, h1, h0, cond_true, cond_false]))
               ·
                rcases Bool.eq_false_or_eq_true (ByteArray.toList { data := #[42] } == ByteArray.toList a) with h15 | h15
                ·
                 exact (sim_run (S.hE S.o_rbit_ok) (S.rLevel_r15 a) ⟨⟨⟨⟨⟨⟨⟨⟨⟨⟨⟨⟨⟨⟨⟨⟨trivial, h0⟩, h1⟩, h2⟩, h3⟩, h4⟩, h5⟩, h6⟩, h7⟩, h8⟩, h9⟩, h10⟩, h11⟩, h12⟩, h13⟩, h14⟩, h15⟩).says (Says.int (by simp only [S.rLevel, h15, h14, h13, h12, h11, h10, h9, h8, h7, h6, h5, h4, h3, h2, h1, h0, cond_true, cond_false]))
                ·
                 rcases Bool.eq_false_or_eq_true (ByteArray.toList { data := #[47] } == ByteArray.toList a) with h16 | h16
                 ·
                  exact (sim_run (S.hE S.o_rbit_ok) (S.rLevel_r16 a) ⟨⟨⟨⟨⟨⟨⟨⟨⟨⟨⟨⟨⟨⟨⟨⟨⟨trivial, h0⟩, h1⟩, h2⟩, h3⟩, h4⟩, h5⟩, h6⟩, h7⟩, h8⟩, h9⟩, h10⟩, h11⟩, h12⟩, h13⟩, h14⟩, h15⟩, h16⟩).says (Says.int (by simp only [S.rLevel, h16, h15, h14, h13, h12, h11, h10, h9, h8, h7, h6, h5, h4, h3, h2, h1, h0, cond_true, cond_false]))
                 ·
                  rcases Bool.eq_false_or_eq_true (ByteArray.toList { data := #[37] } == ByteArray.toList a) with h17 | h17
                  ·
                   exact (sim_run (S.hE S.o_rbit_ok) (S.rLevel_r17 a) ⟨⟨⟨⟨⟨⟨⟨⟨⟨⟨⟨⟨⟨⟨⟨⟨⟨⟨trivial, h0⟩, h1⟩, h2⟩, h3⟩, h4⟩, h5⟩, h6⟩, h7⟩, h8⟩, h9⟩, h10⟩, h11⟩, h12⟩, h13⟩, h14⟩, h15⟩, h16⟩, h17⟩).says (Says.int (by simp only [S.rLevel, h17, h16, h15, h14, h13, h12, h11, h10, h9, h8, h7, h6, h5, h4, h3, h2, h1, h0, cond_true, cond_false]))
                  ·
                   exact (sim_run (S.hE S.o_rbit_ok) (S.rLevel_r18 a) ⟨⟨⟨⟨⟨⟨⟨⟨⟨⟨⟨⟨⟨⟨⟨⟨⟨⟨trivial, h0⟩, h1⟩, h2⟩, h3⟩, h4⟩, h5⟩, h6⟩, h7⟩, h8⟩, h9⟩, h10⟩, h11⟩, h12⟩, h13⟩, h14⟩, h15⟩, h16⟩, h17⟩).says (Says.int (by simp only [S.rLevel, h17, h16, h15, h14, h13, h12, h11, h10, h9, h8, h7, h6, h5, h4, h3, h2, h1, h0, cond_true, cond_false]))
def S.o_rLevel : Orc := orcAdd 57 (fun | [.str true a] => some (.int true .i64 (S.rLevel a)) | _ => none) S.o_rbit
theorem S.o_rLevel_ok : OrcOk prog S.o_rLevel := orcAdd_ok S.o_rbit_ok fun a v h => by
  try dsimp only at h
  split at h
  · rename_i a; cases h; exact S.rLevel_sim a
  · cases h
def S.rBone_0 (a b : Int) : Int := (bif a != 0 then (1) else (S.rbit (b != 0)))
def S.rBone_1 (a b : Int) : Int := (0)
theorem S.rBone_r0 (a b : Int) : run (envC prog imA 300 {} S.o_rLevel) 58 [.str false ⟨#[124, 124]⟩, .int true .i64 a, .int true .i64 b] [] [.br true] = some (True ∧ (a != 0) = true, .tup [.int false .i64 1, .int false .i64 0], []) := by kernel_rfl
theorem S.rBone_r1 (a b : Int) : run (envC prog imA 300 {} S.o_rLevel) 58 [.str false ⟨#[124, 124]⟩, .int true .i64 a, .int true .i64 b] [] [.br false] = some (True ∧ (a != 0) = false, .tup [.int true .i64 (S.rbit (b != 0)), .int false .i64 0], []) := by kernel_rfl
theorem S.rBone_sim (a b : Int) : Sim prog 58 [.str true ⟨#[124, 124]⟩, .int true .i64 a, .int true .i64 b] [] (.tup [.int true .i64 (S.rBone_0 a b), .int true .i64 (S.rBone_1 a b)]) [] := by
 refine Sim.rng fun hrng => ?_
 try simp only [rngL, rngV, kLo, kHi] at hrng
 refine Sim.args (args' := [.str false ⟨#[124, 124]⟩, .int true .i64 a, .int true .i64 b]) ?_ (.cons (Says.str rfl) (.cons (Says.refl _) (.cons (Says.refl _) (.nil))))
 rcases Bool.eq_false_or_eq_true (a != 0) with h0 | h0
 ·
  exact (sim_run (S.hE S.o_rLevel_ok) (S.rBone_r0 a b) ⟨trivial, h0⟩).says (Says.tup (.cons (Says.int (by simp only [S.rBone_0, h0, cond_true, cond_false])) (.cons (Says.int (by simp only [S.rBone_1, h0, cond_true, cond_false])) (.nil))))
 ·
  exact (sim_run (S.hE S.o_rLevel_ok) (S.rBone_r1 a b) ⟨trivial, h0⟩).says (Says.tup (.cons (Says.int (by simp only [S.rBone_0, h0, cond_true, cond_false])) (.cons (Says.int (by simp only [S.rBone_1, h0, cond_true, cond_false])) (.nil))))
def S.o_rBone : Orc := orcAdd 58 (fun | [.str true t0, .int true .i64 a, .int true .i64 b] => (match t0.data.toList == [124, 124] with | true => some (.tup [.int true .i64 (S.rBone_0 a b), .int true .i64 (S.rBone_1 a b)]) | false => none) | _ => none) S.o_rLevel
theorem S.o_rBone_ok : OrcOk prog S.o_rBone := orcAdd_ok S.o_rLevel_ok fun a v h => by
  try dsimp only at h
  split at h
  · rename_i t0 a b
    split at h
    · rename_i ht; cases h; have ht0 := ht; obtain rfl := ba_eq ht0; exact S.rBone_sim a b
    · cases h
  · cases h
def S.rBboth_0 (a b : Int) : Int := (bif a != 0 then (S.rbit (b != 0)) else (0))
def S.rBboth_1 (a b : Int) : Int := (0)
theorem S.rBboth_r0 (a b : Int) : run (envC prog imA 300 {} S.o_rBone) 58 [.str false ⟨#[38, 38]⟩, .int true .i64 a, .int true .i64 b] [] [.br true] = some (True ∧ (a != 0) = true, .tup [.int true .i64 (S.rbit (b != 0)), .int false .i64 0], []) := by kernel_rfl
theorem S.rBboth_r1 (a b : Int) : run (envC prog imA 300 {} S.o_rBone) 58 [.str false ⟨#[38, 38]⟩, .int true .i64 a, .int true .i64 b] [] [.br false] = some (True ∧ (a != 0) = false, .tup [.int false .i64 0, .int false .i64 0], []) := by kernel_rfl
theorem S.rBboth_sim (a b : Int) : Sim prog 58 [.str true ⟨#[38, 38]⟩, .int true .i64 a, .int true .i64 b] [] (.tup [.int true .i64 (S.rBboth_0 a b), .int true .i64 (S.rBboth_1 a b)]) [] := by
 refine Sim.rng fun hrng => ?_
 try simp only [rngL, rngV, kLo, kHi] at hrng
 refine Sim.args (args' := [.str false ⟨#[38, 38]⟩, .int true .i64 a, .int true .i64 b]) ?_ (.cons (Says.str rfl) (.cons (Says.refl _) (.cons (Says.refl _) (.nil))))
 rcases Bool.eq_false_or_eq_true (a != 0) with h0 | h0
 ·
  exact (sim_run (S.hE S.o_rBone_ok) (S.rBboth_r0 a b) ⟨trivial, h0⟩).says (Says.tup (.cons (Says.int (by simp only [S.rBboth_0, h0, cond_true, cond_false])) (.cons (Says.int (by simp only [S.rBboth_1, h0, cond_true, cond_false])) (.nil))))
 ·
  exact (sim_run (S.hE S.o_rBone_ok) (S.rBboth_r1 a b) ⟨trivial, h0⟩).says (Says.tup (.cons (Says.int (by simp only [S.rBboth_0, h0, cond_true, cond_false])) (.cons (Says.int (by simp only [S.rBboth_1, h0, cond_true, cond_false])) (.nil))))
def S.o_rBboth : Orc := orcAdd 58 (fun | [.str true t0, .int true .i64 a, .int true .i64 b] => (match t0.data.toList == [38, 38] with | true => some (.tup [.int true .i64 (S.rBboth_0 a b), .int true .i64 (S.rBboth_1 a b)]) | false => none) | _ => none) S.o_rBone
theorem S.o_rBboth_ok : OrcOk prog S.o_rBboth := orcAdd_ok S.o_rBone_ok fun a v h => by
  try dsimp only at h
  split at h
  · rename_i t0 a b
    split at h
    · rename_i ht; cases h; have ht0 := ht; obtain rfl := ba_eq ht0; exact S.rBboth_sim a b
    · cases h
  · cases h
def S.rBor_0 (a b : Int) : Int := (IntKind.wrap .i64 ↑(BitVec.toNat (BitVec.ofInt (IntKind.bits .i64) a ||| BitVec.ofInt (IntKind.bits .i64) b)))
def S.rBor_1 (a b : Int) : Int := (0)
theorem S.rBor_r0 (a b : Int) : run (envC prog imA 300 {} S.o_rBboth) 58 [.str false ⟨#[124]⟩, .int true .i64 a, .int true .i64 b] [] [] = some (True, .tup [.int true .i64 (IntKind.wrap .i64 ↑(BitVec.toNat (BitVec.ofInt (IntKind.bits .i64) a ||| BitVec.ofInt (IntKind.bits .i64) b))), .int false .i64 0], []) := by kernel_rfl
theorem S.rBor_sim (a b : Int) : Sim prog 58 [.str true ⟨#[124]⟩, .int true .i64 a, .int true .i64 b] [] (.tup [.int true .i64 (S.rBor_0 a b), .int true .i64 (S.rBor_1 a b)]) [] := by
 refine Sim.rng fun hrng => ?_
 try simp only [rngL, rngV, kLo, kHi] at hrng
 refine Sim.args (args' := [.str false ⟨#[124]⟩, .int true .i64 a, .int true .i64 b]) ?_ (.cons (Says.str rfl) (.cons (Says.refl _) (.cons (Says.refl _) (.nil))))
 exact (sim_run (S.hE S.o_rBboth_ok) (S.rBor_r0 a b) trivial).says (Says.tup (.cons (Says.int (rfl)) (.cons (Says.int (rfl)) (.nil))))
def S.o_rBor : Orc := orcAdd 58 (fun | [.str true t0, .int true .i64 a, .int true .i64 b] => (match t0.data.toList == [124] with | true => some (.tup [.int true .i64 (S.rBor_0 a b), .int true .i64 (S.rBor_1 a b)]) | false => none) | _ => none) S.o_rBboth
theorem S.o_rBor_ok : OrcOk prog S.o_rBor := orcAdd_ok S.o_rBboth_ok fun a v h => by
  try dsimp only at h
  split at h
  · rename_i t0 a b
    split at h
    · rename_i ht; cases h; have ht0 := ht; obtain rfl := ba_eq ht0; exact S.rBor_sim a b
    · cases h
  · cases h
def S.rBxor_0 (a b : Int) : Int := (IntKind.wrap .i64 ↑(BitVec.toNat (BitVec.ofInt (IntKind.bits .i64) a ^^^ BitVec.ofInt (IntKind.bits .i64) b)))
def S.rBxor_1 (a b : Int) : Int := (0)
theorem S.rBxor_r0 (a b : Int) : run (envC prog imA 300 {} S.o_rBor) 58 [.str false ⟨#[94]⟩, .int true .i64 a, .int true .i64 b] [] [] = some (True, .tup [.int true .i64 (IntKind.wrap .i64 ↑(BitVec.toNat (BitVec.ofInt (IntKind.bits .i64) a ^^^ BitVec.ofInt (IntKind.bits .i64) b))), .int false .i64 0], []) := by kernel_rfl
theorem S.rBxor_sim (a b : Int) : Sim prog 58 [.str true ⟨#[94]⟩, .int true .i64 a, .int true .i64 b] [] (.tup [.int true .i64 (S.rBxor_0 a b), .int true .i64 (S.rBxor_1 a b)]) [] := by
 refine Sim.rng fun hrng => ?_
 try simp only [rngL, rngV, kLo, kHi] at hrng
 refine Sim.args (args' := [.str false ⟨#[94]⟩, .int true .i64 a, .int true .i64 b]) ?_ (.cons (Says.str rfl) (.cons (Says.refl _) (.cons (Says.refl _) (.nil))))
 exact (sim_run (S.hE S.o_rBor_ok) (S.rBxor_r0 a b) trivial).says (Says.tup (.cons (Says.int (rfl)) (.cons (Says.int (rfl)) (.nil))))
def S.o_rBxor : Orc := orcAdd 58 (fun | [.str true t0, .int true .i64 a, .int true .i64 b] => (match t0.data.toList == [94] with | true => some (.tup [.int true .i64 (S.rBxor_0 a b), .int true .i64 (S.rBxor_1 a b)]) | false => none) | _ => none) S.o_rBor
theorem S.o_rBxor_ok : OrcOk prog S.o_rBxor := orcAdd_ok S.o_rBor_ok fun a v h => by
  try dsimp only at h
  split at h
  · rename_i t0 a b
    split at h
    · rename_i ht; cases h; have ht0 := ht; obtain rfl := ba_eq ht0; exact S.rBxor_sim a b
    · cases h
  · cases h
def S.rBand_0 (a b : Int) : Int := (IntKind.wrap .i64 ↑(BitVec.toNat (BitVec.ofInt (IntKind.bits .i64) a &&& BitVec.ofInt (IntKind.bits .i64) b)))
def S.rBand_1 (a b : Int) : Int := (0)
theorem S.rBand_r0 (a b : Int) : run (envC prog imA 300 {} S.o_rBxor) 58 [.str false ⟨#[38]⟩, .int true .i64 a, .int true .i64 b] [] [] = some (True, .tup [.int true .i64 (IntKind.wrap .i64 ↑(BitVec.toNat (BitVec.ofInt (IntKind.bits .i64) a &&& BitVec.ofInt (IntKind.bits .i64) b))), .int false .i64 0], []) := by kernel_rfl
theorem S.rBand_sim (a b : Int) : Sim prog 58 [.str true ⟨#[38]⟩, .int true .i64 a, .int true .i64 b] [] (.tup [.int true .i64 (S.rBand_0 a b), .int true .i64 (S.rBand_1 a b)]) [] := by
 refine Sim.rng fun hrng => ?_
 try simp only [rngL, rngV, kLo, kHi] at hrng
 refine Sim.args (args' := [.str false ⟨#[38]⟩, .int true .i64 a, .int true .i64 b]) ?_ (.cons (Says.str rfl) (.cons (Says.refl _) (.cons (Says.refl _) (.nil))))
 exact (sim_run (S.hE S.o_rBxor_ok) (S.rBand_r0 a b) trivial).says (Says.tup (.cons (Says.int (rfl)) (.cons (Says.int (rfl)) (.nil))))
def S.o_rBand : Orc := orcAdd 58 (fun | [.str true t0, .int true .i64 a, .int true .i64 b] => (match t0.data.toList == [38] with | true => some (.tup [.int true .i64 (S.rBand_0 a b), .int true .i64 (S.rBand_1 a b)]) | false => none) | _ => none) S.o_rBxor
theorem S.o_rBand_ok : OrcOk prog S.o_rBand := orcAdd_ok S.o_rBxor_ok fun a v h => by
  try dsimp only at h
  split at h
  · rename_i t0 a b
    split at h
    · rename_i ht; cases h; have ht0 := ht; obtain rfl := ba_eq ht0; exact S.rBand_sim a b
    · cases h
  · cases h
def S.rBeq_0 (a b : Int) : Int := (S.rbit (a == b))
def S.rBeq_1 (a b : Int) : Int := (0)
theorem S.rBeq_r0 (a b : Int) : run (envC prog imA 300 {} S.o_rBand) 58 [.str false ⟨#[61, 61]⟩, .int true .i64 a, .int true .i64 b] [] [] = some (True, .tup [.int true .i64 (S.rbit (a == b)), .int false .i64 0], []) := by kernel_rfl
theorem S.rBeq_sim (a b : Int) : Sim prog 58 [.str true ⟨#[61, 61]⟩, .int true .i64 a, .int true .i64 b] [] (.tup [.int true .i64 (S.rBeq_0 a b), .int true .i64 (S.rBeq_1 a b)]) [] := by
 refine Sim.rng fun hrng => ?_
 try simp only [rngL, rngV, kLo, kHi] at hrng
 refine Sim.args (args' := [.str false ⟨#[61, 61]⟩, .int true .i64 a, .int true .i64 b]) ?_ (.cons (Says.str rfl) (.cons (Says.refl _) (.cons (Says.refl _) (.nil))))
 exact (sim_run (S.hE S.o_rBand_ok) (S.rBeq_r0 a b) trivial).says (Says.tup (.cons (Says.int (rfl)) (.cons (Says.int (rfl)) (.nil))))
def S.o_rBeq : Orc := orcAdd 58 (fun | [.str true t0, .int true .i64 a, .int true .i64 b] => (match t0.data.toList == [61, 61] with | true => some (.tup [.int true .i64 (S.rBeq_0 a b), .int true .i64 (S.rBeq_1 a b)]) | false => none) | _ => none) S.o_rBand
theorem S.o_rBeq_ok : OrcOk prog S.o_rBeq := orcAdd_ok S.o_rBand_ok fun a v h => by
  try dsimp only at h
  split at h
  · rename_i t0 a b
    split at h
    · rename_i ht; cases h; have ht0 := ht; obtain rfl := ba_eq ht0; exact S.rBeq_sim a b
    · cases h
  · cases h
def S.rBne_0 (a b : Int) : Int := (S.rbit (a != b))
def S.rBne_1 (a b : Int) : Int := (0)
theorem S.rBne_r0 (a b : Int) : run (envC prog imA 300 {} S.o_rBeq) 58 [.str false ⟨#[33, 61]⟩, .int true .i64 a, .int true .i64 b] [] [] = some (True, .tup [.int true .i64 (S.rbit (a != b)), .int false .i64 0], []) := by kernel_rfl
theorem S.rBne_sim (a b : Int) : Sim prog 58 [.str true ⟨#[33, 61]⟩, .int true .i64 a, .int true .i64 b] [] (.tup [.int true .i64 (S.rBne_0 a b), .int true .i64 (S.rBne_1 a b)]) [] := by
 refine Sim.rng fun hrng => ?_
 try simp only [rngL, rngV, kLo, kHi] at hrng
 refine Sim.args (args' := [.str false ⟨#[33, 61]⟩, .int true .i64 a, .int true .i64 b]) ?_ (.cons (Says.str rfl) (.cons (Says.refl _) (.cons (Says.refl _) (.nil))))
 exact (sim_run (S.hE S.o_rBeq_ok) (S.rBne_r0 a b) trivial).says (Says.tup (.cons (Says.int (rfl)) (.cons (Says.int (rfl)) (.nil))))
def S.o_rBne : Orc := orcAdd 58 (fun | [.str true t0, .int true .i64 a, .int true .i64 b] => (match t0.data.toList == [33, 61] with | true => some (.tup [.int true .i64 (S.rBne_0 a b), .int true .i64 (S.rBne_1 a b)]) | false => none) | _ => none) S.o_rBeq
theorem S.o_rBne_ok : OrcOk prog S.o_rBne := orcAdd_ok S.o_rBeq_ok fun a v h => by
  try dsimp only at h
  split at h
  · rename_i t0 a b
    split at h
    · rename_i ht; cases h; have ht0 := ht; obtain rfl := ba_eq ht0; exact S.rBne_sim a b
    · cases h
  · cases h
def S.rBlt_0 (a b : Int) : Int := (S.rbit (decide (a < b)))
def S.rBlt_1 (a b : Int) : Int := (0)
theorem S.rBlt_r0 (a b : Int) : run (envC prog imA 300 {} S.o_rBne) 58 [.str false ⟨#[60]⟩, .int true .i64 a, .int true .i64 b] [] [] = some (True, .tup [.int true .i64 (S.rbit (decide (a < b))), .int false .i64 0], []) := by kernel_rfl
theorem S.rBlt_sim (a b : Int) : Sim prog 58 [.str true ⟨#[60]⟩, .int true .i64 a, .int true .i64 b] [] (.tup [.int true .i64 (S.rBlt_0 a b), .int true .i64 (S.rBlt_1 a b)]) [] := by
 refine Sim.rng fun hrng => ?_
 try simp only [rngL, rngV, kLo, kHi] at hrng
 refine Sim.args (args' := [.str false ⟨#[60]⟩, .int true .i64 a, .int true .i64 b]) ?_ (.cons (Says.str rfl) (.cons (Says.refl _) (.cons (Says.refl _) (.nil))))
 exact (sim_run (S.hE S.o_rBne_ok) (S.rBlt_r0 a b) trivial).says (Says.tup (.cons (Says.int (rfl)) (.cons (Says.int (rfl)) (.nil))))
def S.o_rBlt : Orc := orcAdd 58 (fun | [.str true t0, .int true .i64 a, .int true .i64 b] => (match t0.data.toList == [60] with | true => some (.tup [.int true .i64 (S.rBlt_0 a b), .int true .i64 (S.rBlt_1 a b)]) | false => none) | _ => none) S.o_rBne
theorem S.o_rBlt_ok : OrcOk prog S.o_rBlt := orcAdd_ok S.o_rBne_ok fun a v h => by
  try dsimp only at h
  split at h
  · rename_i t0 a b
    split at h
    · rename_i ht; cases h; have ht0 := ht; obtain rfl := ba_eq ht0; exact S.rBlt_sim a b
    · cases h
  · cases h
def S.rBle_0 (a b : Int) : Int := (S.rbit (decide (a ≤ b)))
def S.rBle_1 (a b : Int) : Int := (0)
theorem S.rBle_r0 (a b : Int) : run (envC prog imA 300 {} S.o_rBlt) 58 [.str false ⟨#[60, 61]⟩, .int true .i64 a, .int true .i64 b] [] [] = some (True, .tup [.int true .i64 (S.rbit (decide (a ≤ b))), .int false .i64 0], []) := by kernel_rfl
theorem S.rBle_sim (a b : Int) : Sim prog 58 [.str true ⟨#[60, 61]⟩, .int true .i64 a, .int true .i64 b] [] (.tup [.int true .i64 (S.rBle_0 a b), .int true .i64 (S.rBle_1 a b)]) [] := by
 refine Sim.rng fun hrng => ?_
 try simp only [rngL, rngV, kLo, kHi] at hrng
 refine Sim.args (args' := [.str false ⟨#[60, 61]⟩, .int true .i64 a, .int true .i64 b]) ?_ (.cons (Says.str rfl) (.cons (Says.refl _) (.cons (Says.refl _) (.nil))))
 exact (sim_run (S.hE S.o_rBlt_ok) (S.rBle_r0 a b) trivial).says (Says.tup (.cons (Says.int (rfl)) (.cons (Says.int (rfl)) (.nil))))
def S.o_rBle : Orc := orcAdd 58 (fun | [.str true t0, .int true .i64 a, .int true .i64 b] => (match t0.data.toList == [60, 61] with | true => some (.tup [.int true .i64 (S.rBle_0 a b), .int true .i64 (S.rBle_1 a b)]) | false => none) | _ => none) S.o_rBlt
theorem S.o_rBle_ok : OrcOk prog S.o_rBle := orcAdd_ok S.o_rBlt_ok fun a v h => by
  try dsimp only at h
  split at h
  · rename_i t0 a b
    split at h
    · rename_i ht; cases h; have ht0 := ht; obtain rfl := ba_eq ht0; exact S.rBle_sim a b
    · cases h
  · cases h
def S.rBgt_0 (a b : Int) : Int := (S.rbit (decide (a > b)))
def S.rBgt_1 (a b : Int) : Int := (0)
theorem S.rBgt_r0 (a b : Int) : run (envC prog imA 300 {} S.o_rBle) 58 [.str false ⟨#[62]⟩, .int true .i64 a, .int true .i64 b] [] [] = some (True, .tup [.int true .i64 (S.rbit (decide (a > b))), .int false .i64 0], []) := by kernel_rfl
theorem S.rBgt_sim (a b : Int) : Sim prog 58 [.str true ⟨#[62]⟩, .int true .i64 a, .int true .i64 b] [] (.tup [.int true .i64 (S.rBgt_0 a b), .int true .i64 (S.rBgt_1 a b)]) [] := by
 refine Sim.rng fun hrng => ?_
 try simp only [rngL, rngV, kLo, kHi] at hrng
 refine Sim.args (args' := [.str false ⟨#[62]⟩, .int true .i64 a, .int true .i64 b]) ?_ (.cons (Says.str rfl) (.cons (Says.refl _) (.cons (Says.refl _) (.nil))))
 exact (sim_run (S.hE S.o_rBle_ok) (S.rBgt_r0 a b) trivial).says (Says.tup (.cons (Says.int (rfl)) (.cons (Says.int (rfl)) (.nil))))
def S.o_rBgt : Orc := orcAdd 58 (fun | [.str true t0, .int true .i64 a, .int true .i64 b] => (match t0.data.toList == [62] with | true => some (.tup [.int true .i64 (S.rBgt_0 a b), .int true .i64 (S.rBgt_1 a b)]) | false => none) | _ => none) S.o_rBle
theorem S.o_rBgt_ok : OrcOk prog S.o_rBgt := orcAdd_ok S.o_rBle_ok fun a v h => by
  try dsimp only at h
  split at h
  · rename_i t0 a b
    split at h
    · rename_i ht; cases h; have ht0 := ht; obtain rfl := ba_eq ht0; exact S.rBgt_sim a b
    · cases h
  · cases h
def S.rBge_0 (a b : Int) : Int := (S.rbit (decide (a ≥ b)))
def S.rBge_1 (a b : Int) : Int := (0)
theorem S.rBge_r0 (a b : Int) : run (envC prog imA 300 {} S.o_rBgt) 58 [.str false ⟨#[62, 61]⟩, .int true .i64 a, .int true .i64 b] [] [] = some (True, .tup [.int true .i64 (S.rbit (decide (a ≥ b))), .int false .i64 0], []) := by kernel_rfl
theorem S.rBge_sim (a b : Int) : Sim prog 58 [.str true ⟨#[62, 61]⟩, .int true .i64 a, .int true .i64 b] [] (.tup [.int true .i64 (S.rBge_0 a b), .int true .i64 (S.rBge_1 a b)]) [] := by
 refine Sim.rng fun hrng => ?_
 try simp only [rngL, rngV, kLo, kHi] at hrng
 refine Sim.args (args' := [.str false ⟨#[62, 61]⟩, .int true .i64 a, .int true .i64 b]) ?_ (.cons (Says.str rfl) (.cons (Says.refl _) (.cons (Says.refl _) (.nil))))
 exact (sim_run (S.hE S.o_rBgt_ok) (S.rBge_r0 a b) trivial).says (Says.tup (.cons (Says.int (rfl)) (.cons (Says.int (rfl)) (.nil))))
def S.o_rBge : Orc := orcAdd 58 (fun | [.str true t0, .int true .i64 a, .int true .i64 b] => (match t0.data.toList == [62, 61] with | true => some (.tup [.int true .i64 (S.rBge_0 a b), .int true .i64 (S.rBge_1 a b)]) | false => none) | _ => none) S.o_rBgt
theorem S.o_rBge_ok : OrcOk prog S.o_rBge := orcAdd_ok S.o_rBgt_ok fun a v h => by
  try dsimp only at h
  split at h
  · rename_i t0 a b
    split at h
    · rename_i ht; cases h; have ht0 := ht; obtain rfl := ba_eq ht0; exact S.rBge_sim a b
    · cases h
  · cases h
def S.rBleft_0 (a b : Int) : Int := (bif decide (b < 0) then (0) else (bif decide (b > 63) then (0) else (IntKind.wrap .i64 (a * 2 ^ min (Int.toNat (IntKind.wrap .u64 b)) (IntKind.bits .i64)))))
def S.rBleft_1 (a b : Int) : Int := (bif decide (b < 0) then (2) else (bif decide (b > 63) then (2) else (0)))
theorem S.rBleft_r0 (a b : Int) : run (envC prog imA 300 {} S.o_rBge) 58 [.str false ⟨#[60, 60]⟩, .int true .i64 a, .int true .i64 b] [] [.br true] = some (True ∧ decide (b < 0) = true, .tup [.int false .i64 0, .int false .i64 2], []) := by kernel_rfl
theorem S.rBleft_r1 (a b : Int) : run (envC prog imA 300 {} S.o_rBge) 58 [.str false ⟨#[60, 60]⟩, .int true .i64 a, .int true .i64 b] [] [.br false, .br true] = some ((True ∧ decide (b < 0) = false) ∧ decide (b > 63) = true, .tup [.int false .i64 0, .int false .i64 2], []) := by kernel_rfl
theorem S.rBleft_r2 (a b : Int) : run (envC prog imA 300 {} S.o_rBge) 58 [.str false ⟨#[60, 60]⟩, .int true .i64 a, .int true .i64 b] [] [.br false, .br false, .br true] = some (((True ∧ decide (b < 0) = false) ∧ decide (b > 63) = false) ∧ decide (0 ≤ IntKind.wrap .u64 b) = true, .tup [.int true .i64 (IntKind.wrap .i64 (a * 2 ^ min (Int.toNat (IntKind.wrap .u64 b)) (IntKind.bits .i64))), .int false .i64 0], []) := by kernel_rfl
theorem S.rBleft_sim (a b : Int) : Sim prog 58 [.str true ⟨#[60, 60]⟩, .int true .i64 a, .int true .i64 b] [] (.tup [.int true .i64 (S.rBleft_0 a b), .int true .i64 (S.rBleft_1 a b)]) [] := by
 refine Sim.rng fun hrng => ?_
 try simp only [rngL, rngV, kLo, kHi] at hrng
 refine Sim.args (args' := [.str false ⟨#[60, 60]⟩, .int true .i64 a, .int true .i64 b]) ?_ (.cons (Says.str rfl) (.cons (Says.refl _) (.cons (Says.refl _) (.nil))))
 rcases Bool.eq_false_or_eq_true (decide (b < 0)) with h0 | h0
 ·
  exact (sim_run (S.hE S.o_rBge_ok) (S.rBleft_r0 a b) ⟨trivial, h0⟩).says (Says.tup (.cons (Says.int (by simp only [S.rBleft_0, h0, cond_true, cond_false])) (.cons (Says.int (by simp only [S.rBleft_1, h0, cond_true, cond_false])) (.nil))))
 ·
  rcases Bool.eq_false_or_eq_true (decide (b > 63)) with h1 | h1
  ·
   exact (sim_run (S.hE S.o_rBge_ok) (S.rBleft_r1 a b) ⟨⟨trivial, h0⟩, h1⟩).says (Says.tup (.cons (Says.int (by simp only [S.rBleft_0, h1, h0, cond_true, cond_false])) (.cons (Says.int (by simp only [S.rBleft_1, h1, h0, cond_true, cond_false])) (.nil))))
  ·
   rcases Bool.eq_false_or_eq_true (decide (0 ≤ IntKind.wrap .u64 b)) with h2 | h2
   ·
    exact (sim_run (S.hE S.o_rBge_ok) (S.rBleft_r2 a b) ⟨⟨⟨trivial, h0⟩, h1⟩, h2⟩).says (Says.tup (.cons (Says.int (by simp only [S.rBleft_0, h2, h1, h0, cond_true, cond_false])) (.cons (Says.int (by simp only [S.rBleft_1, h2, h1, h0, cond_true, cond_false])) (.nil))))
   ·
    exfalso; first | (rw [S.u64_nonneg] at h2; cases h2) | (simp_all only [bne, Bool.not_false, Bool.not_true]; done) | (simp only [bne, Bool.not_false, Bool.not_true] at * <;> simp_all)
def S.o_rBleft : Orc := orcAdd 58 (fun | [.str true t0, .int true .i64 a, .int true .i64 b] => (match t0.data.toList == [60, 60] with | true => some (.tup [.int true .i64 (S.rBleft_0 a b), .int true .i64 (S.rBleft_1 a b)]) | false => none) | _ => none) S.o_rBge
theorem S.o_rBleft_ok : OrcOk prog S.o_rBleft := orcAdd_ok S.o_rBge_ok fun a v h => by
  try dsimp only at h
  split at h
  · rename_i t0 a b
    split at h
    · rename_i ht; cases h; have ht0 := ht; obtain rfl := ba_eq ht0; exact S.rBleft_sim a b
    · cases h
  · cases h
def S.rBright_0 (a b : Int) : Int := (bif decide (b < 0) then (0) else (bif decide (b > 63) then (0) else (Int.fdiv a (2 ^ min (Int.toNat (IntKind.wrap .u64 b)) (IntKind.bits .i64)))))
def S.rBright_1 (a b : Int) : Int := (bif decide (b < 0) then (2) else (bif decide (b > 63) then (2) else (0)))
theorem S.rBright_r0 (a b : Int) : run (envC prog imA 300 {} S.o_rBleft) 58 [.str false ⟨#[62, 62]⟩, .int true .i64 a, .int true .i64 b] [] [.br true] = some (True ∧ decide (b < 0) = true, .tup [.int false .i64 0, .int false .i64 2], []) := by kernel_rfl
theorem S.rBright_r1 (a b : Int) : run (envC prog imA 300 {} S.o_rBleft) 58 [.str false ⟨#[62, 62]⟩, .int true .i64 a, .int true .i64 b] [] [.br false, .br true] = some ((True ∧ decide (b < 0) = false) ∧ decide (b > 63) = true, .tup [.int false .i64 0, .int false .i64 2], []) := by kernel_rfl
theorem S.rBright_r2 (a b : Int) : run (envC prog imA 300 {} S.o_rBleft) 58 [.str false ⟨#[62, 62]⟩, .int true .i64 a, .int true .i64 b] [] [.br false, .br false, .br true] = some (((True ∧ decide (b < 0) = false) ∧ decide (b > 63) = false) ∧ decide (0 ≤ IntKind.wrap .u64 b) = true, .tup [.int true .i64 (Int.fdiv a (2 ^ min (Int.toNat (IntKind.wrap .u64 b)) (IntKind.bits .i64))), .int false .i64 0], []) := by kernel_rfl
theorem S.rBright_sim (a b : Int) : Sim prog 58 [.str true ⟨#[62, 62]⟩, .int true .i64 a, .int true .i64 b] [] (.tup [.int true .i64 (S.rBright_0 a b), .int true .i64 (S.rBright_1 a b)]) [] := by
 refine Sim.rng fun hrng => ?_
 try simp only [rngL, rngV, kLo, kHi] at hrng
 refine Sim.args (args' := [.str false ⟨#[62, 62]⟩, .int true .i64 a, .int true .i64 b]) ?_ (.cons (Says.str rfl) (.cons (Says.refl _) (.cons (Says.refl _) (.nil))))
 rcases Bool.eq_false_or_eq_true (decide (b < 0)) with h0 | h0
 ·
  exact (sim_run (S.hE S.o_rBleft_ok) (S.rBright_r0 a b) ⟨trivial, h0⟩).says (Says.tup (.cons (Says.int (by simp only [S.rBright_0, h0, cond_true, cond_false])) (.cons (Says.int (by simp only [S.rBright_1, h0, cond_true, cond_false])) (.nil))))
 ·
  rcases Bool.eq_false_or_eq_true (decide (b > 63)) with h1 | h1
  ·
   exact (sim_run (S.hE S.o_rBleft_ok) (S.rBright_r1 a b) ⟨⟨trivial, h0⟩, h1⟩).says (Says.tup (.cons (Says.int (by simp only [S.rBright_0, h1, h0, cond_true, cond_false])) (.cons (Says.int (by simp only [S.rBright_1, h1, h0, cond_true, cond_false])) (.nil))))
  ·
   rcases Bool.eq_false_or_eq_true (decide (0 ≤ IntKind.wrap .u64 b)) with h2 | h2
   ·
    exact (sim_run (S.hE S.o_rBleft_ok) (S.rBright_r2 a b) ⟨⟨⟨trivial, h0⟩, h1⟩, h2⟩).says (Says.tup (.cons (Says.int (by simp only [S.rBright_0, h2, h1, h0, cond_true, cond_false])) (.cons (Says.int (by simp only [S.rBright_1, h2, h1, h0, cond_true, cond_false])) (.nil))))
   ·
    exfalso; first | (rw [S.u64_nonneg] at h2; cases h2) | (simp_all only [bne, Bool.not_false, Bool.not_true]; done) | (simp only [bne, Bool.not_false, Bool.not_true] at * <;> simp_all)
def S.o_rBright : Orc := orcAdd 58 (fun | [.str true t0, .int true .i64 a, .int true .i64 b] => (match t0.data.toList == [62, 62] with | true => some (.tup [.int true .i64 (S.rBright_0 a b), .int true .i64 (S.rBright_1 a b)]) | false => none) | _ => none) S.o_rBleft
theorem S.o_rBright_ok : OrcOk prog S.o_rBright := orcAdd_ok S.o_rBleft_ok fun a v h => by
  try dsimp only at h
  split at h
  · rename_i t0 a b
    split at h
    · rename_i ht; cases h; have ht0 := ht; obtain rfl := ba_eq ht0; exact S.rBright_sim a b
    · cases h
  · cases h
def S.rBadd_0 (a b : Int) : Int := (IntKind.wrap .i64 (a + b))
def S.rBadd_1 (a b : Int) : Int := (0)
theorem S.rBadd_r0 (a b : Int) : run (envC prog imA 300 {} S.o_rBright) 58 [.str false ⟨#[43]⟩, .int true .i64 a, .int true .i64 b] [] [] = some (True, .tup [.int true .i64 (IntKind.wrap .i64 (a + b)), .int false .i64 0], []) := by kernel_rfl
theorem S.rBadd_sim (a b : Int) : Sim prog 58 [.str true ⟨#[43]⟩, .int true .i64 a, .int true .i64 b] [] (.tup [.int true .i64 (S.rBadd_0 a b), .int true .i64 (S.rBadd_1 a b)]) [] := by
 refine Sim.rng fun hrng => ?_
 try simp only [rngL, rngV, kLo, kHi] at hrng
 refine Sim.args (args' := [.str false ⟨#[43]⟩, .int true .i64 a, .int true .i64 b]) ?_ (.cons (Says.str rfl) (.cons (Says.refl _) (.cons (Says.refl _) (.nil))))
 exact (sim_run (S.hE S.o_rBright_ok) (S.rBadd_r0 a b) trivial).says (Says.tup (.cons (Says.int (rfl)) (.cons (Says.int (rfl)) (.nil))))
def S.o_rBadd : Orc := orcAdd 58 (fun | [.str true t0, .int true .i64 a, .int true .i64 b] => (match t0.data.toList == [43] with | true => some (.tup [.int true .i64 (S.rBadd_0 a b), .int true .i64 (S.rBadd_1 a b)]) | false => none) | _ => none) S.o_rBright
theorem S.o_rBadd_ok : OrcOk prog S.o_rBadd := orcAdd_ok S.o_rBright_ok fun a v h => by
  try dsimp only at h
  split at h
  · rename_i t0 a b
    split at h
    · rename_i ht; cases h; have ht0 := ht; obtain rfl := ba_eq ht0; exact S.rBadd_sim a b
    · cases h
  · cases h
def S.rBsub_0 (a b : Int) : Int := (IntKind.wrap .i64 (a - b))
def S.rBsub_1 (a b : Int) : Int := (0)
theorem S.rBsub_r0 (a b : Int) : run (envC prog imA 300 {} S.o_rBadd) 58 [.str false ⟨#[45]⟩, .int true .i64 a, .int true .i64 b] [] [] = some (True, .tup [.int true .i64 (IntKind.wrap .i64 (a - b)), .int false .i64 0], []) := by kernel_rfl
theorem S.rBsub_sim (a b : Int) : Sim prog 58 [.str true ⟨#[45]⟩, .int true .i64 a, .int true .i64 b] [] (.tup [.int true .i64 (S.rBsub_0 a b), .int true .i64 (S.rBsub_1 a b)]) [] := by
 refine Sim.rng fun hrng => ?_
 try simp only [rngL, rngV, kLo, kHi] at hrng
 refine Sim.args (args' := [.str false ⟨#[45]⟩, .int true .i64 a, .int true .i64 b]) ?_ (.cons (Says.str rfl) (.cons (Says.refl _) (.cons (Says.refl _) (.nil))))
 exact (sim_run (S.hE S.o_rBadd_ok) (S.rBsub_r0 a b) trivial).says (Says.tup (.cons (Says.int (rfl)) (.cons (Says.int (rfl)) (.nil))))
def S.o_rBsub : Orc := orcAdd 58 (fun | [.str true t0, .int true .i64 a, .int true .i64 b] => (match t0.data.toList == [45] with | true => some (.tup [.int true .i64 (S.rBsub_0 a b), .int true .i64 (S.rBsub_1 a b)]) | false => none) | _ => none) S.o_rBadd
theorem S.o_rBsub_ok : OrcOk prog S.o_rBsub := orcAdd_ok S.o_rBadd_ok fun a v h => by
  try dsimp only at h
  split at h
  · rename_i t0 a b
    split at h
    · rename_i ht; cases h; have ht0 := ht; obtain rfl := ba_eq ht0; exact S.rBsub_sim a b
    · cases h
  · cases h
def S.rBmul_0 (a b : Int) : Int := (IntKind.wrap .i64 (a * b))
def S.rBmul_1 (a b : Int) : Int := (0)
theorem S.rBmul_r0 (a b : Int) : run (envC prog imA 300 {} S.o_rBsub) 58 [.str false ⟨#[42]⟩, .int true .i64 a, .int true .i64 b] [] [] = some (True, .tup [.int true .i64 (IntKind.wrap .i64 (a * b)), .int false .i64 0], []) := by kernel_rfl
theorem S.rBmul_sim (a b : Int) : Sim prog 58 [.str true ⟨#[42]⟩, .int true .i64 a, .int true .i64 b] [] (.tup [.int true .i64 (S.rBmul_0 a b), .int true .i64 (S.rBmul_1 a b)]) [] := by
 refine Sim.rng fun hrng => ?_
 try simp only [rngL, rngV, kLo, kHi] at hrng
 refine Sim.args (args' := [.str false ⟨#[42]⟩, .int true .i64 a, .int true .i64 b]) ?_ (.cons (Says.str rfl) (.cons (Says.refl _) (.cons (Says.refl _) (.nil))))
 exact (sim_run (S.hE S.o_rBsub_ok) (S.rBmul_r0 a b) trivial).says (Says.tup (.cons (Says.int (rfl)) (.cons (Says.int (rfl)) (.nil))))
def S.o_rBmul : Orc := orcAdd 58 (fun | [.str true t0, .int true .i64 a, .int true .i64 b] => (match t0.data.toList == [42] with | true => some (.tup [.int true .i64 (S.rBmul_0 a b), .int true .i64 (S.rBmul_1 a b)]) | false => none) | _ => none) S.o_rBsub
theorem S.o_rBmul_ok : OrcOk prog S.o_rBmul := orcAdd_ok S.o_rBsub_ok fun a v h => by
  try dsimp only at h
  split at h
  · rename_i t0 a b
    split at h
    · rename_i ht; cases h; have ht0 := ht; obtain rfl := ba_eq ht0; exact S.rBmul_sim a b
    · cases h
  · cases h
def S.rBquo_0 (a b : Int) : Int := (bif b == 0 then (0) else (bif b == -1 then (IntKind.wrap .i64 (0 - a)) else (IntKind.wrap .i64 (Int.tdiv a b))))
def S.rBquo_1 (a b : Int) : Int := (bif b == 0 then (1) else (0))
theorem S.rBquo_r0 (a b : Int) : run (envC prog imA 300 {} S.o_rBmul) 58 [.str false ⟨#[47]⟩, .int true .i64 a, .int true .i64 b] [] [.br true] = some (True ∧ (b == 0) = true, .tup [.int false .i64 0, .int false .i64 1], []) := by kernel_rfl
theorem S.rBquo_r1 (a b : Int) : run (envC prog imA 300 {} S.o_rBmul) 58 [.str false ⟨#[47]⟩, .int true .i64 a, .int true .i64 b] [] [.br false, .br true] = some ((True ∧ (b == 0) = false) ∧ (b == -1) = true, .tup [.int true .i64 (IntKind.wrap .i64 (0 - a)), .int false .i64 0], []) := by kernel_rfl
theorem S.rBquo_r2 (a b : Int) : run (envC prog imA 300 {} S.o_rBmul) 58 [.str false ⟨#[47]⟩, .int true .i64 a, .int true .i64 b] [] [.br false, .br false, .br true] = some (((True ∧ (b == 0) = false) ∧ (b == -1) = false) ∧ (b == -1) = true, .tup [.int false .i64 0, .int false .i64 0], []) := by kernel_rfl
theorem S.rBquo_r3 (a b : Int) : run (envC prog imA 300 {} S.o_rBmul) 58 [.str false ⟨#[47]⟩, .int true .i64 a, .int true .i64 b] [] [.br false, .br false, .br false, .br true] = some ((((True ∧ (b == 0) = false) ∧ (b == -1) = false) ∧ (b == -1) = false) ∧ (b != 0) = true, .tup [.int true .i64 (IntKind.wrap .i64 (Int.tdiv a b)), .int false .i64 0], []) := by kernel_rfl
theorem S.rBquo_sim (a b : Int) : Sim prog 58 [.str true ⟨#[47]⟩, .int true .i64 a, .int true .i64 b] [] (.tup [.int true .i64 (S.rBquo_0 a b), .int true .i64 (S.rBquo_1 a b)]) [] := by
 refine Sim.rng fun hrng => ?_
 try simp only [rngL, rngV, kLo, kHi] at hrng
 refine Sim.args (args' := [.str false ⟨#[47]⟩, .int true .i64 a, .int true .i64 b]) ?_ (.cons (Says.str rfl) (.cons (Says.refl _) (.cons (Says.refl _) (.nil))))
 rcases Bool.eq_false_or_eq_true (b == 0) with h0 | h0
 ·
  exact (sim_run (S.hE S.o_rBmul_ok) (S.rBquo_r0 a b) ⟨trivial, h0⟩).says (Says.tup (.cons (Says.int (by simp only [S.rBquo_0, h0, cond_true, cond_false])) (.cons (Says.int (by simp only [S.rBquo_1, h0, cond_true, cond_false])) (.nil))))
 ·
  rcases Bool.eq_false_or_eq_true (b == -1) with h1 | h1
  ·
   exact (sim_run (S.hE S.o_rBmul_ok) (S.rBquo_r1 a b) ⟨⟨trivial, h0⟩, h1⟩).says (Says.tup (.cons (Says.int (by simp only [S.rBquo_0, h1, h0, cond_true, cond_false])) (.cons (Says.int (by simp only [S.rBquo_1, h1, h0, cond_true, cond_false])) (.nil))))
  ·
   rcases Bool.eq_false_or_eq_true (b != 0) with h2 | h2
   ·
    exact (sim_run (S.hE S.o_rBmul_ok) (S.rBquo_r3 a b) ⟨⟨⟨⟨trivial, h0⟩, h1⟩, h1⟩, h2⟩).says (Says.tup (.cons (Says.int (by simp only [S.rBquo_0, h2, h1, h0, cond_true, cond_false])) (.cons (Says.int (by simp only [S.rBquo_1, h2, h1, h0, cond_true, cond_false])) (.nil))))
   ·
    exfalso; first | (rw [S.u64_nonneg] at h2; cases h2) | (simp_all only [bne, Bool.not_false, Bool.not_true]; done) | (simp only [bne, Bool.not_false, Bool.not_true] at * <;> simp_all)
def S.o_rBquo : Orc := orcAdd 58 (fun | [.str true t0, .int true .i64 a, .int true .i64 b] => (match t0.data.toList == [47] with | true => some (.tup [.int true .i64 (S.rBquo_0 a b), .int true .i64 (S.rBquo_1 a b)]) | false => none) | _ => none) S.o_rBmul
theorem S.o_rBquo_ok : OrcOk prog S.o_rBquo := orcAdd_ok S.o_rBmul_ok fun a v h => by
  try dsimp only at h
  split at h
  · rename_i t0 a b
    split at h
    · rename_i ht; cases h; have ht0 := ht; obtain rfl := ba_eq ht0; exact S.rBquo_sim a b
    · cases h
  · cases h
def S.rBrem_0 (a b : Int) : Int := (bif b == 0 then (0) else (bif b == -1 then (0) else (Int.tmod a b)))
def S.rBrem_1 (a b : Int) : Int := (bif b == 0 then (1) else (0))
theorem S.rBrem_r0 (a b : Int) : run (envC prog imA 300 {} S.o_rBquo) 58 [.str false ⟨#[37]⟩, .int true .i64 a, .int true .i64 b] [] [.br true] = some (True ∧ (b == 0) = true, .tup [.int false .i64 0, .int false .i64 1], []) := by kernel_rfl
theorem S.rBrem_r1 (a b : Int) : run (envC prog imA 300 {} S.o_rBquo) 58 [.str false ⟨#[37]⟩, .int true .i64 a, .int true .i64 b] [] [.br false, .br true] = some ((True ∧ (b == 0) = false) ∧ (b == -1) = true, .tup [.int false .i64 0, .int false .i64 0], []) := by kernel_rfl
theorem S.rBrem_r2 (a b : Int) : run (envC prog imA 300 {} S.o_rBquo) 58 [.str false ⟨#[37]⟩, .int true .i64 a, .int true .i64 b] [] [.br false, .br false, .br true] = some (((True ∧ (b == 0) = false) ∧ (b == -1) = false) ∧ (b != 0) = true, .tup [.int true .i64 (Int.tmod a b), .int false .i64 0], []) := by kernel_rfl
theorem S.rBrem_sim (a b : Int) : Sim prog 58 [.str true ⟨#[37]⟩, .int true .i64 a, .int true .i64 b] [] (.tup [.int true .i64 (S.rBrem_0 a b), .int true .i64 (S.rBrem_1 a b)]) [] := by
 refine Sim.rng fun hrng => ?_
 try simp only [rngL, rngV, kLo, kHi] at hrng
 refine Sim.args (args' := [.str false ⟨#[37]⟩, .int true .i64 a, .int true .i64 b]) ?_ (.cons (Says.str rfl) (.cons (Says.refl _) (.cons (Says.refl _) (.nil))))
 rcases Bool.eq_false_or_eq_true (b == 0) with h0 | h0
 ·
  exact (sim_run (S.hE S.o_rBquo_ok) (S.rBrem_r0 a b) ⟨trivial, h0⟩).says (Says.tup (.cons (Says.int (by simp only [S.rBrem_0, h0, cond_true, cond_false])) (.cons (Says.int (by simp only [S.rBrem_1, h0, cond_true, cond_false])) (.nil))))
 ·
  rcases Bool.eq_false_or_eq_true (b == -1) with h1 | h1
  ·
   exact (sim_run (S.hE S.o_rBquo_ok) (S.rBrem_r1 a b) ⟨⟨trivial, h0⟩, h1⟩).says (Says.tup (.cons (Says.int (by simp only [S.rBrem_0, h1, h0, cond_true, cond_false])) (.cons (Says.int (by simp only [S.rBrem_1, h1, h0, cond_true, cond_false])) (.nil))))
  ·
   rcases Bool.eq_false_or_eq_true (b != 0) with h2 | h2
   ·
    exact (sim_run (S.hE S.o_rBquo_ok) (S.rBrem_r2 a b) ⟨⟨⟨trivial, h0⟩, h1⟩, h2⟩).says (Says.tup (.cons (Says.int (by simp only [S.rBrem_0, h2, h1, h0, cond_true, cond_false])) (.cons (Says.int (by simp only [S.rBrem_1, h2, h1, h0, cond_true, cond_false])) (.nil))))
   ·
    exfalso; first | (rw [S.u64_nonneg] at h2; cases h2) | (simp_all only [bne, Bool.not_false, Bool.not_true]; done) | (simp only [bne, Bool.not_false, Bool.not_true] at * <;> simp_all)
def S.o_rBrem : Orc := orcAdd 58 (fun | [.str true t0, .int true .i64 a, .int true .i64 b] => (match t0.data.toList == [37] with | true => some (.tup [.int true .i64 (S.rBrem_0 a b), .int true .i64 (S.rBrem_1 a b)]) | false => none) | _ => none) S.o_rBquo
theorem S.o_rBrem_ok : OrcOk prog S.o_rBrem := orcAdd_ok S.o_rBquo_ok fun a v h => by
  try dsimp only at h
  split at h
  · rename_i t0 a b
    split at h
    · rename_i ht; cases h; have ht0 := ht; obtain rfl := ba_eq ht0; exact S.rBrem_sim a b
    · cases h
  · cases h
