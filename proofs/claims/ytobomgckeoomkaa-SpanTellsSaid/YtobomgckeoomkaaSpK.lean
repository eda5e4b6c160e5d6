import Derived.Test.YtobomgckeoomkaaSpJ
set_option linter.unusedVariables false
set_option linter.unusedSimpArgs false
set_option maxRecDepth 100000
open Go Go.Im
def S.op (a : ByteArray) (b : Int) : ByteArray := (bif decide (IntKind.wrap IntKind.i64 b < IntKind.wrap IntKind.i64 (10 * ↑18)) then (bif Int.toNat (Int.tmod (IntKind.wrap IntKind.i64 b) ↑18) == 0 then ({ data := #[124, 124] }) else (bif Int.toNat (Int.tmod (IntKind.wrap IntKind.i64 b) ↑18) == 1 then ({ data := #[38, 38] }) else (bif Int.toNat (Int.tmod (IntKind.wrap IntKind.i64 b) ↑18) == 2 then ({ data := #[124] }) else (bif Int.toNat (Int.tmod (IntKind.wrap IntKind.i64 b) ↑18) == 3 then ({ data := #[94] }) else (bif Int.toNat (Int.tmod (IntKind.wrap IntKind.i64 b) ↑18) == 4 then ({ data := #[38] }) else (bif Int.toNat (Int.tmod (IntKind.wrap IntKind.i64 b) ↑18) == 5 then ({ data := #[61, 61] }) else (bif Int.toNat (Int.tmod (IntKind.wrap IntKind.i64 b) ↑18) == 6 then ({ data := #[33, 61] }) else (bif Int.toNat (Int.tmod (IntKind.wrap IntKind.i64 b) ↑18) == 7 then ({ data := #[60] }) else (bif Int.toNat (Int.tmod (IntKind.wrap IntKind.i64 b) ↑18) == 8 then ({ data := #[60, 61] }) else (bif Int.toNat (Int.tmod (IntKind.wrap IntKind.i64 b) ↑18) == 9 then ({ data := #[62] }) else (bif Int.toNat (Int.tmod (IntKind.wrap IntKind.i64 b) ↑18) == 10 then ({ data := #[62, 61] }) else (bif Int.toNat (Int.tmod (IntKind.wrap IntKind.i64 b) ↑18) == 11 then ({ data := #[60, 60] }) else (bif Int.toNat (Int.tmod (IntKind.wrap IntKind.i64 b) ↑18) == 12 then ({ data := #[62, 62] }) else (bif Int.toNat (Int.tmod (IntKind.wrap IntKind.i64 b) ↑18) == 13 then ({ data := #[43] }) else (bif Int.toNat (Int.tmod (IntKind.wrap IntKind.i64 b) ↑18) == 14 then ({ data := #[45] }) else (bif Int.toNat (Int.tmod (IntKind.wrap IntKind.i64 b) ↑18) == 15 then ({ data := #[42] }) else (bif Int.toNat (Int.tmod (IntKind.wrap IntKind.i64 b) ↑18) == 16 then ({ data := #[47] }) else ({ data := #[37] })))))))))))))))))) else (bif decide (b < 200) then (bif Int.toNat (Int.tmod b 3) == 0 then ({ data := #[33] }) else (bif Int.toNat (Int.tmod b 3) == 1 then ({ data := #[126] }) else ({ data := #[45] }))) else (a)))
theorem S.op_r0 (a : ByteArray) (b : Int) : run (envC Go.Proofs.Try.prog imA 300 {} S.o_SB) 12 [.str true a, .int true .u8 b] [] [.br true, .br true, .at 0] = some (((True ∧ decide (IntKind.wrap IntKind.i64 b < IntKind.wrap IntKind.i64 (10 * ↑18)) = true) ∧ inRange (Int.tmod (IntKind.wrap IntKind.i64 b) ↑18) 18 = true) ∧ (Int.toNat (Int.tmod (IntKind.wrap IntKind.i64 b) ↑18) == 0) = true, V.str false { data := #[124, 124] }, []) := by kernel_rfl
theorem S.op_r1 (a : ByteArray) (b : Int) : run (envC Go.Proofs.Try.prog imA 300 {} S.o_SB) 12 [.str true a, .int true .u8 b] [] [.br false, .br true, .br true, .at 0] = some ((((True ∧ decide (IntKind.wrap IntKind.i64 b < IntKind.wrap IntKind.i64 (10 * ↑18)) = false) ∧ decide (b < 200) = true) ∧ inRange (Int.tmod b 3) 3 = true) ∧ (Int.toNat (Int.tmod b 3) == 0) = true, V.str false { data := #[33] }, []) := by kernel_rfl
theorem S.op_r2 (a : ByteArray) (b : Int) : run (envC Go.Proofs.Try.prog imA 300 {} S.o_SB) 12 [.str true a, .int true .u8 b] [] [.br false, .br false] = some ((True ∧ decide (IntKind.wrap IntKind.i64 b < IntKind.wrap IntKind.i64 (10 * ↑18)) = false) ∧ decide (b < 200) = false, V.str true a, []) := by kernel_rfl
theorem S.op_r3 (a : ByteArray) (b : Int) : run (envC Go.Proofs.Try.prog imA 300 {} S.o_SB) 12 [.str true a, .int true .u8 b] [] [.br false, .br true, .br true, .at 1] = some ((((True ∧ decide (IntKind.wrap IntKind.i64 b < IntKind.wrap IntKind.i64 (10 * ↑18)) = false) ∧ decide (b < 200) = true) ∧ inRange (Int.tmod b 3) 3 = true) ∧ (Int.toNat (Int.tmod b 3) == 1) = true, V.str false { data := #[126] }, []) := by kernel_rfl
theorem S.op_r4 (a : ByteArray) (b : Int) : run (envC Go.Proofs.Try.prog imA 300 {} S.o_SB) 12 [.str true a, .int true .u8 b] [] [.br false, .br true, .br true, .at 2] = some ((((True ∧ decide (IntKind.wrap IntKind.i64 b < IntKind.wrap IntKind.i64 (10 * ↑18)) = false) ∧ decide (b < 200) = true) ∧ inRange (Int.tmod b 3) 3 = true) ∧ (Int.toNat (Int.tmod b 3) == 2) = true, V.str false { data := #[45] }, []) := by kernel_rfl
theorem S.op_r5 (a : ByteArray) (b : Int) : run (envC Go.Proofs.Try.prog imA 300 {} S.o_SB) 12 [.str true a, .int true .u8 b] [] [.br true, .br true, .at 1] = some (((True ∧ decide (IntKind.wrap IntKind.i64 b < IntKind.wrap IntKind.i64 (10 * ↑18)) = true) ∧ inRange (Int.tmod (IntKind.wrap IntKind.i64 b) ↑18) 18 = true) ∧ (Int.toNat (Int.tmod (IntKind.wrap IntKind.i64 b) ↑18) == 1) = true, V.str false { data := #[38, 38] }, []) := by kernel_rfl
theorem S.op_r6 (a : ByteArray) (b : Int) : run (envC Go.Proofs.Try.prog imA 300 {} S.o_SB) 12 [.str true a, .int true .u8 b] [] [.br true, .br true, .at 2] = some (((True ∧ decide (IntKind.wrap IntKind.i64 b < IntKind.wrap IntKind.i64 (10 * ↑18)) = true) ∧ inRange (Int.tmod (IntKind.wrap IntKind.i64 b) ↑18) 18 = true) ∧ (Int.toNat (Int.tmod (IntKind.wrap IntKind.i64 b) ↑18) == 2) = true, V.str false { data := #[124] }, []) := by kernel_rfl
theorem S.op_r7 (a : ByteArray) (b : Int) : run (envC Go.Proofs.Try.prog imA 300 {} S.o_SB) 12 [.str true a, .int true .u8 b] [] [.br true, .br true, .at 3] = some (((True ∧ decide (IntKind.wrap IntKind.i64 b < IntKind.wrap IntKind.i64 (10 * ↑18)) = true) ∧ inRange (Int.tmod (IntKind.wrap IntKind.i64 b) ↑18) 18 = true) ∧ (Int.toNat (Int.tmod (IntKind.wrap IntKind.i64 b) ↑18) == 3) = true, V.str false { data := #[94] }, []) := by kernel_rfl
theorem S.op_r8 (a : ByteArray) (b : Int) : run (envC Go.Proofs.Try.prog imA 300 {} S.o_SB) 12 [.str true a, .int true .u8 b] [] [.br true, .br true, .at 4] = some (((True ∧ decide (IntKind.wrap IntKind.i64 b < IntKind.wrap IntKind.i64 (10 * ↑18)) = true) ∧ inRange (Int.tmod (IntKind.wrap IntKind.i64 b) ↑18) 18 = true) ∧ (Int.toNat (Int.tmod (IntKind.wrap IntKind.i64 b) ↑18) == 4) = true, V.str false { data := #[38] }, []) := by kernel_rfl
theorem S.op_r9 (a : ByteArray) (b : Int) : run (envC Go.Proofs.Try.prog imA 300 {} S.o_SB) 12 [.str true a, .int true .u8 b] [] [.br true, .br true, .at 5] = some (((True ∧ decide (IntKind.wrap IntKind.i64 b < IntKind.wrap IntKind.i64 (10 * ↑18)) = true) ∧ inRange (Int.tmod (IntKind.wrap IntKind.i64 b) ↑18) 18 = true) ∧ (Int.toNat (Int.tmod (IntKind.wrap IntKind.i64 b) ↑18) == 5) = true, V.str false { data := #[61, 61] }, []) := by kernel_rfl
theorem S.op_r10 (a : ByteArray) (b : Int) : run (envC Go.Proofs.Try.prog imA 300 {} S.o_SB) 12 [.str true a, .int true .u8 b] [] [.br true, .br true, .at 6] = some (((True ∧ decide (IntKind.wrap IntKind.i64 b < IntKind.wrap IntKind.i64 (10 * ↑18)) = true) ∧ inRange (Int.tmod (IntKind.wrap IntKind.i64 b) ↑18) 18 = true) ∧ (Int.toNat (Int.tmod (IntKind.wrap IntKind.i64 b) ↑18) == 6) = true, V.str false { data := #[33, 61] }, []) := by kernel_rfl
theorem S.op_r11 (a : ByteArray) (b : Int) : run (envC Go.Proofs.Try.prog imA 300 {} S.o_SB) 12 [.str true a, .int true .u8 b] [] [.br true, .br true, .at 7] = some (((True ∧ decide (IntKind.wrap IntKind.i64 b < IntKind.wrap IntKind.i64 (10 * ↑18)) = true) ∧ inRange (Int.tmod (IntKind.wrap IntKind.i64 b) ↑18) 18 = true) ∧ (Int.toNat (Int.tmod (IntKind.wrap IntKind.i64 b) ↑18) == 7) = true, V.str false { data := #[60] }, []) := by kernel_rfl
theorem S.op_r12 (a : ByteArray) (b : Int) : run (envC Go.Proofs.Try.prog imA 300 {} S.o_SB) 12 [.str true a, .int true .u8 b] [] [.br true, .br true, .at 8] = some (((True ∧ decide (IntKind.wrap IntKind.i64 b < IntKind.wrap IntKind.i64 (10 * ↑18)) = true) ∧ inRange (Int.tmod (IntKind.wrap IntKind.i64 b) ↑18) 18 = true) ∧ (Int.toNat (Int.tmod (IntKind.wrap IntKind.i64 b) ↑18) == 8) = true, V.str false { data := #[60, 61] }, []) := by kernel_rfl
theorem S.op_r13 (a : ByteArray) (b : Int) : run (envC Go.Proofs.Try.prog imA 300 {} S.o_SB) 12 [.str true a, .int true .u8 b] [] [.br true, .br true, .at 9] = some (((True ∧ decide (IntKind.wrap IntKind.i64 b < IntKind.wrap IntKind.i64 (10 * ↑18)) = true) ∧ inRange (Int.tmod (IntKind.wrap IntKind.i64 b) ↑18) 18 = true) ∧ (Int.toNat (Int.tmod (IntKind.wrap IntKind.i64 b) ↑18) == 9) = true, V.str false { data := #[62] }, []) := by kernel_rfl
theorem S.op_r14 (a : ByteArray) (b : Int) : run (envC Go.Proofs.Try.prog imA 300 {} S.o_SB) 12 [.str true a, .int true .u8 b] [] [.br true, .br true, .at 10] = some (((True ∧ decide (IntKind.wrap IntKind.i64 b < IntKind.wrap IntKind.i64 (10 * ↑18)) = true) ∧ inRange (Int.tmod (IntKind.wrap IntKind.i64 b) ↑18) 18 = true) ∧ (Int.toNat (Int.tmod (IntKind.wrap IntKind.i64 b) ↑18) == 10) = true, V.str false { data := #[62, 61] }, []) := by kernel_rfl
theorem S.op_r15 (a : ByteArray) (b : Int) : run (envC Go.Proofs.Try.prog imA 300 {} S.o_SB) 12 [.str true a, .int true .u8 b] [] [.br true, .br true, .at 11] = some (((True ∧ decide (IntKind.wrap IntKind.i64 b < IntKind.wrap IntKind.i64 (10 * ↑18)) = true) ∧ inRange (Int.tmod (IntKind.wrap IntKind.i64 b) ↑18) 18 = true) ∧ (Int.toNat (Int.tmod (IntKind.wrap IntKind.i64 b) ↑18) == 11) = true, V.str false { data := #[60, 60] }, []) := by kernel_rfl
theorem S.op_r16 (a : ByteArray) (b : Int) : run (envC Go.Proofs.Try.prog imA 300 {} S.o_SB) 12 [.str true a, .int true .u8 b] [] [.br true, .br true, .at 12] = some (((True ∧ decide (IntKind.wrap IntKind.i64 b < IntKind.wrap IntKind.i64 (10 * ↑18)) = true) ∧ inRange (Int.tmod (IntKind.wrap IntKind.i64 b) ↑18) 18 = true) ∧ (Int.toNat (Int.tmod (IntKind.wrap IntKind.i64 b) ↑18) == 12) = true, V.str false { data := #[62, 62] }, []) := by kernel_rfl
theorem S.op_r17 (a : ByteArray) (b : Int) : run (envC Go.Proofs.Try.prog imA 300 {} S.o_SB) 12 [.str true a, .int true .u8 b] [] [.br true, .br true, .at 13] = some (((True ∧ decide (IntKind.wrap IntKind.i64 b < IntKind.wrap IntKind.i64 (10 * ↑18)) = true) ∧ inRange (Int.tmod (IntKind.wrap IntKind.i64 b) ↑18) 18 = true) ∧ (Int.toNat (Int.tmod (IntKind.wrap IntKind.i64 b) ↑18) == 13) = true, V.str false { data := #[43] }, []) := by kernel_rfl
theorem S.op_r18 (a : ByteArray) (b : Int) : run (envC Go.Proofs.Try.prog imA 300 {} S.o_SB) 12 [.str true a, .int true .u8 b] [] [.br true, .br true, .at 14] = some (((True ∧ decide (IntKind.wrap IntKind.i64 b < IntKind.wrap IntKind.i64 (10 * ↑18)) = true) ∧ inRange (Int.tmod (IntKind.wrap IntKind.i64 b) ↑18) 18 = true) ∧ (Int.toNat (Int.tmod (IntKind.wrap IntKind.i64 b) ↑18) == 14) = true, V.str false { data := #[45] }, []) := by kernel_rfl
theorem S.op_r19 (a : ByteArray) (b : Int) : run (envC Go.Proofs.Try.prog imA 300 {} S.o_SB) 12 [.str true a, .int true .u8 b] [] [.br true, .br true, .at 15] = some (((True ∧ decide (IntKind.wrap IntKind.i64 b < IntKind.wrap IntKind.i64 (10 * ↑18)) = true) ∧ inRange (Int.tmod (IntKind.wrap IntKind.i64 b) ↑18) 18 = true) ∧ (Int.toNat (Int.tmod (IntKind.wrap IntKind.i64 b) ↑18) == 15) = true, V.str false { data := #[42] }, []) := by kernel_rfl
theorem S.op_r20 (a : ByteArray) (b : Int) : run (envC Go.Proofs.Try.prog imA 300 {} S.o_SB) 12 [.str true a, .int true .u8 b] [] [.br true, .br true, .at 16] = some (((True ∧ decide (IntKind.wrap IntKind.i64 b < IntKind.wrap IntKind.i64 (10 * ↑18)) = true) ∧ inRange (Int.tmod (IntKind.wrap IntKind.i64 b) ↑18) 18 = true) ∧ (Int.toNat (Int.tmod (IntKind.wrap IntKind.i64 b) ↑18) == 16) = true, V.str false { data := #[47] }, []) := by kernel_rfl
theorem S.op_r21 (a : ByteArray) (b : Int) : run (envC Go.Proofs.Try.prog imA 300 {} S.o_SB) 12 [.str true a, .int true .u8 b] [] [.br true, .br true, .at 17] = some (((True ∧ decide (IntKind.wrap IntKind.i64 b < IntKind.wrap IntKind.i64 (10 * ↑18)) = true) ∧ inRange (Int.tmod (IntKind.wrap IntKind.i64 b) ↑18) 18 = true) ∧ (Int.toNat (Int.tmod (IntKind.wrap IntKind.i64 b) ↑18) == 17) = true, V.str false { data := #[37] }, []) := by kernel_rfl
theorem S.op_sim (a : ByteArray) (b : Int) : Sim Go.Proofs.Try.prog 12 [.str true a, .int true .u8 b] [] (.str true (S.op a b)) [] := by
  refine Sim.rng fun hrng => ?_
  try simp only [rngL, rngV, kLo, kHi] at hrng
  rcases Bool.eq_false_or_eq_true (decide (IntKind.wrap IntKind.i64 b < IntKind.wrap IntKind.i64 (10 * ↑18))) with h0 | h0
  ·
    rcases Bool.eq_false_or_eq_true (inRange (Int.tmod (IntKind.wrap IntKind.i64 b) ↑18) 18) with h1 | h1
    ·
      rcases Bool.eq_false_or_eq_true (Int.toNat (Int.tmod (IntKind.wrap IntKind.i64 b) ↑18) == 0) with h2 | h2
      ·
        exact (sim_run (E := envC Go.Proofs.Try.prog imA 300 {} S.o_SB) (envC_ok hmixed S.o_SB_ok) (ps := [.br true, .br true, .at 0]) (S.op_r0 a b) ⟨⟨⟨trivial, h0⟩, h1⟩, h2⟩).says (Says.str (by first | (simp only [S.op, h2, h1, h0, cond_true, cond_false]; done) | (simp only [S.op]; clear hrng; simp_all only [cond_true, cond_false]; done)))
      ·
        rcases Bool.eq_false_or_eq_true (Int.toNat (Int.tmod (IntKind.wrap IntKind.i64 b) ↑18) == 1) with h3 | h3
        ·
          exact (sim_run (E := envC Go.Proofs.Try.prog imA 300 {} S.o_SB) (envC_ok hmixed S.o_SB_ok) (ps := [.br true, .br true, .at 1]) (S.op_r5 a b) ⟨⟨⟨trivial, h0⟩, h1⟩, h3⟩).says (Says.str (by first | (simp only [S.op, h3, h2, h1, h0, cond_true, cond_false]; done) | (simp only [S.op]; clear hrng; simp_all only [cond_true, cond_false]; done)))
        ·
          rcases Bool.eq_false_or_eq_true (Int.toNat (Int.tmod (IntKind.wrap IntKind.i64 b) ↑18) == 2) with h4 | h4
          ·
            exact (sim_run (E := envC Go.Proofs.Try.prog imA 300 {} S.o_SB) (envC_ok hmixed S.o_SB_ok) (ps := [.br true, .br true, .at 2]) (S.op_r6 a b) ⟨⟨⟨trivial, h0⟩, h1⟩, h4⟩).says (Says.str (by first | (simp only [S.op, h4, h3, h2, h1, h0, cond_true, cond_false]; done) | (simp only [S.op]; clear hrng; simp_all only [cond_true, cond_false]; done)))
          ·
            rcases Bool.eq_false_or_eq_true (Int.toNat (Int.tmod (IntKind.wrap IntKind.i64 b) ↑18) == 3) with h5 | h5
            ·
              exact (sim_run (E := envC Go.Proofs.Try.prog imA 300 {} S.o_SB) (envC_ok hmixed S.o_SB_ok) (ps := [.br true, .br true, .at 3]) (S.op_r7 a b) ⟨⟨⟨trivial, h0⟩, h1⟩, h5⟩).says (Says.str (by first | (simp only [S.op, h5, h4, h3, h2, h1, h0, cond_true, cond_false]; done) | (simp only [S.op]; clear hrng; simp_all only [cond_true, cond_false]; done)))
            ·
              rcases Bool.eq_false_or_eq_true (Int.toNat (Int.tmod (IntKind.wrap IntKind.i64 b) ↑18) == 4) with h6 | h6
              ·
                exact (sim_run (E := envC Go.Proofs.Try.prog imA 300 {} S.o_SB) (envC_ok hmixed S.o_SB_ok) (ps := [.br true, .br true, .at 4]) (S.op_r8 a b) ⟨⟨⟨trivial, h0⟩, h1⟩, h6⟩).says (Says.str (by first | (simp only [S.op, h6, h5, h4, h3, h2, h1, h0, cond_true, cond_false]; done) | (simp only [S.op]; clear hrng; simp_all only [cond_true, cond_false]; done)))
              ·
                rcases Bool.eq_false_or_eq_true (Int.toNat (Int.tmod (IntKind.wrap IntKind.i64 b) ↑18) == 5) with h7 | h7
                ·
                  exact (sim_run (E := envC Go.Proofs.Try.prog imA 300 {} S.o_SB) (envC_ok hmixed S.o_SB_ok) (ps := [.br true, .br true, .at 5]) (S.op_r9 a b) ⟨⟨⟨trivial, h0⟩, h1⟩, h7⟩).says (Says.str (by first | (simp only [S.op, h7, h6, h5, h4, h3, h2, h1, h0, cond_true, cond_false]; done) | (simp only [S.op]; clear hrng; simp_all only [cond_true, cond_false]; done)))
                ·
                  rcases Bool.eq_false_or_eq_true (Int.toNat (Int.tmod (IntKind.wrap IntKind.i64 b) ↑18) == 6) with h8 | h8
                  ·
                    exact (sim_run (E := envC Go.Proofs.Try.prog imA 300 {} S.o_SB) (envC_ok hmixed S.o_SB_ok) (ps := [.br true, .br true, .at 6]) (S.op_r10 a b) ⟨⟨⟨trivial, h0⟩, h1⟩, h8⟩).says (Says.str (by first | (simp only [S.op, h8, h7, h6, h5, h4, h3, h2, h1, h0, cond_true, cond_false]; done) | (simp only [S.op]; clear hrng; simp_all only [cond_true, cond_false]; done)))
                  ·
                    rcases Bool.eq_false_or_eq_true (Int.toNat (Int.tmod (IntKind.wrap IntKind.i64 b) ↑18) == 7) with h9 | h9
                    ·
                      exact (sim_run (E := envC Go.Proofs.Try.prog imA 300 {} S.o_SB) (envC_ok hmixed S.o_SB_ok) (ps := [.br true, .br true, .at 7]) (S.op_r11 a b) ⟨⟨⟨trivial, h0⟩, h1⟩, h9⟩).says (Says.str (by first | (simp only [S.op, h9, h8, h7, h6, h5, h4, h3, h2, h1, h0, cond_true, cond_false]; done) | (simp only [S.op]; clear hrng; simp_all only [cond_true, cond_false]; done)))
                    ·
                      rcases Bool.eq_false_or_eq_true (Int.toNat (Int.tmod (IntKind.wrap IntKind.i64 b) ↑18) == 8) with h10 | h10
                      ·
                        exact (sim_run (E := envC Go.Proofs.Try.prog imA 300 {} S.o_SB) (envC_ok hmixed S.o_SB_ok) (ps := [.br true, .br true, .at 8]) (S.op_r12 a b) ⟨⟨⟨trivial, h0⟩, h1⟩, h10⟩).says (Says.str (by first | (simp only [S.op, h10, h9, h8, h7, h6, h5, h4, h3, h2, h1, h0, cond_true, cond_false]; done) | (simp only [S.op]; clear hrng; simp_all only [cond_true, cond_false]; done)))
                      ·
                        rcases Bool.eq_false_or_eq_true (Int.toNat (Int.tmod (IntKind.wrap IntKind.i64 b) ↑18) == 9) with h11 | h11
                        ·
                          exact (sim_run (E := envC Go.Proofs.Try.prog imA 300 {} S.o_SB) (envC_ok hmixed S.o_SB_ok) (ps := [.br true, .br true, .at 9]) (S.op_r13 a b) ⟨⟨⟨trivial, h0⟩, h1⟩, h11⟩).says (Says.str (by first | (simp only [S.op, h11, h10, h9, h8, h7, h6, h5, h4, h3, h2, h1, h0, cond_true, cond_false]; done) | (simp only [S.op]; clear hrng; simp_all only [cond_true, cond_false]; done)))
                        ·
                          rcases Bool.eq_false_or_eq_true (Int.toNat (Int.tmod (IntKind.wrap IntKind.i64 b) ↑18) == 10) with h12 | h12
                          ·
                            exact (sim_run (E := envC Go.Proofs.Try.prog imA 300 {} S.o_SB) (envC_ok hmixed S.o_SB_ok) (ps := [.br true, .br true, .at 10]) (S.op_r14 a b) ⟨⟨⟨trivial, h0⟩, h1⟩, h12⟩).says (Says.str (by first | (simp only [S.op, h12, h11, h10, h9, h8, h7, h6, h5, h4, h3, h2, h1, h0, cond_true, cond_false]; done) | (simp only [S.op]; clear hrng; simp_all only [cond_true, cond_false]; done)))
                          ·
                            rcases Bool.eq_false_or_eq_true (Int.toNat (Int.tmod (IntKind.wrap IntKind.i64 b) ↑18) == 11) with h13 | h13
                            ·
                              exact (sim_run (E := envC Go.Proofs.Try.prog imA 300 {} S.o_SB) (envC_ok hmixed S.o_SB_ok) (ps := [.br true, .br true, .at 11]) (S.op_r15 a b) ⟨⟨⟨trivial, h0⟩, h1⟩, h13⟩).says (Says.str (by first | (simp only [S.op, h13, h12, h11, h10, h9, h8, h7, h6, h5, h4, h3, h2, h1, h0, cond_true, cond_false]; done) | (simp only [S.op]; clear hrng; simp_all only [cond_true, cond_false]; done)))
                            ·
                              rcases Bool.eq_false_or_eq_true (Int.toNat (Int.tmod (IntKind.wrap IntKind.i64 b) ↑18) == 12) with h14 | h14
                              ·
                                exact (sim_run (E := envC Go.Proofs.Try.prog imA 300 {} S.o_SB) (envC_ok hmixed S.o_SB_ok) (ps := [.br true, .br true, .at 12]) (S.op_r16 a b) ⟨⟨⟨trivial, h0⟩, h1⟩, h14⟩).says (Says.str (by first | (simp only [S.op, h14, h13, h12, h11, h10, h9, h8, h7, h6, h5, h4, h3, h2, h1, h0, cond_true, cond_false]; done) | (simp only [S.op]; clear hrng; simp_all only [cond_true, cond_false]; done)))
                              ·
                                rcases Bool.eq_false_or_eq_true (Int.toNat (Int.tmod (IntKind.wrap IntKind.i64 b) ↑18) == 13) with h15 | h15
                                ·
                                  exact (sim_run (E := envC Go.Proofs.Try.prog imA 300 {} S.o_SB) (envC_ok hmixed S.o_SB_ok) (ps := [.br true, .br true, .at 13]) (S.op_r17 a b) ⟨⟨⟨trivial, h0⟩, h1⟩, h15⟩).says (Says.str (by first | (simp only [S.op, h15, h14, h13, h12, h11, h10, h9, h8, h7, h6, h5, h4, h3, h2, h1, h0, cond_true, cond_false]; done) | (simp only [S.op]; clear hrng; simp_all only [cond_true, cond_false]; done)))
                                ·
                                  rcases Bool.eq_false_or_eq_true (Int.toNat (Int.tmod (IntKind.wrap IntKind.i64 b) ↑18) == 14) with h16 | h16
                                  ·
                                    exact (sim_run (E := envC Go.Proofs.Try.prog imA 300 {} S.o_SB) (envC_ok hmixed S.o_SB_ok) (ps := [.br true, .br true, .at 14]) (S.op_r18 a b) ⟨⟨⟨trivial, h0⟩, h1⟩, h16⟩).says (Says.str (by first | (simp only [S.op, h16, h15, h14, h13, h12, h11, h10, h9, h8, h7, h6, h5, h4, h3, h2, h1, h0, cond_true, cond_false]; done) | (simp only [S.op]; clear hrng; simp_all only [cond_true, cond_false]; done)))
                                  ·
                                    rcases Bool.eq_false_or_eq_true (Int.toNat (Int.tmod (IntKind.wrap IntKind.i64 b) ↑18) == 15) with h17 | h17
                                    ·
                                      exact (sim_run (E := envC Go.Proofs.Try.prog imA 300 {} S.o_SB) (envC_ok hmixed S.o_SB_ok) (ps := [.br true, .br true, .at 15]) (S.op_r19 a b) ⟨⟨⟨trivial, h0⟩, h1⟩, h17⟩).says (Says.str (by first | (simp only [S.op, h17, h16, h15, h14, h13, h12, h11, h10, h9, h8, h7, h6, h5, h4, h3, h2, h1, h0, cond_true, cond_false]; done) | (simp only [S.op]; clear hrng; simp_all only [cond_true, cond_false]; done)))
                                    ·
                                      rcases Bool.eq_false_or_eq_true (Int.toNat (Int.tmod (IntKind.wrap IntKind.i64 b) ↑18) == 16) with h18 | h18
                                      ·
                                        exact (sim_run (E := envC Go.Proofs.Try.prog imA 300 {} S.o_SB) (envC_ok hmixed S.o_SB_ok) (ps := [.br true, .br true, .at 16]) (S.op_r20 a b) ⟨⟨⟨trivial, h0⟩, h1⟩, h18⟩).says (Says.str (by first | (simp only [S.op, h18, h17, h16, h15, h14, h13, h12, h11, h10, h9, h8, h7, h6, h5, h4, h3, h2, h1, h0, cond_true, cond_false]; done) | (simp only [S.op]; clear hrng; simp_all only [cond_true, cond_false]; done)))
                                      ·
                                        rcases Bool.eq_false_or_eq_true (Int.toNat (Int.tmod (IntKind.wrap IntKind.i64 b) ↑18) == 17) with h19 | h19
                                        ·
                                          exact (sim_run (E := envC Go.Proofs.Try.prog imA 300 {} S.o_SB) (envC_ok hmixed S.o_SB_ok) (ps := [.br true, .br true, .at 17]) (S.op_r21 a b) ⟨⟨⟨trivial, h0⟩, h1⟩, h19⟩).says (Says.str (by first | (simp only [S.op, h19, h18, h17, h16, h15, h14, h13, h12, h11, h10, h9, h8, h7, h6, h5, h4, h3, h2, h1, h0, cond_true, cond_false]; done) | (simp only [S.op]; clear hrng; simp_all only [cond_true, cond_false]; done)))
                                        ·
                                          exfalso; simp only [S.wI_id (x := b) (by omega) (by omega), Int.tmod_eq_emod_of_nonneg (show (0:Int) ≤ b by omega), inRange, Bool.and_eq_true, Bool.and_eq_false_iff, decide_eq_true_eq, decide_eq_false_iff_not, beq_eq_false_iff_ne, ne_eq] at *; omega
    ·
      exfalso; simp only [S.wI_id (x := b) (by omega) (by omega), Int.tmod_eq_emod_of_nonneg (show (0:Int) ≤ b by omega), inRange, Bool.and_eq_true, Bool.and_eq_false_iff, decide_eq_true_eq, decide_eq_false_iff_not, beq_eq_false_iff_ne, ne_eq] at *; omega
  ·
    rcases Bool.eq_false_or_eq_true (decide (b < 200)) with h1 | h1
    ·
      rcases Bool.eq_false_or_eq_true (inRange (Int.tmod b 3) 3) with h2 | h2
      ·
        rcases Bool.eq_false_or_eq_true (Int.toNat (Int.tmod b 3) == 0) with h3 | h3
        ·
          exact (sim_run (E := envC Go.Proofs.Try.prog imA 300 {} S.o_SB) (envC_ok hmixed S.o_SB_ok) (ps := [.br false, .br true, .br true, .at 0]) (S.op_r1 a b) ⟨⟨⟨⟨trivial, h0⟩, h1⟩, h2⟩, h3⟩).says (Says.str (by first | (simp only [S.op, h3, h2, h1, h0, cond_true, cond_false]; done) | (simp only [S.op]; clear hrng; simp_all only [cond_true, cond_false]; done)))
        ·
          rcases Bool.eq_false_or_eq_true (Int.toNat (Int.tmod b 3) == 1) with h4 | h4
          ·
            exact (sim_run (E := envC Go.Proofs.Try.prog imA 300 {} S.o_SB) (envC_ok hmixed S.o_SB_ok) (ps := [.br false, .br true, .br true, .at 1]) (S.op_r3 a b) ⟨⟨⟨⟨trivial, h0⟩, h1⟩, h2⟩, h4⟩).says (Says.str (by first | (simp only [S.op, h4, h3, h2, h1, h0, cond_true, cond_false]; done) | (simp only [S.op]; clear hrng; simp_all only [cond_true, cond_false]; done)))
          ·
            rcases Bool.eq_false_or_eq_true (Int.toNat (Int.tmod b 3) == 2) with h5 | h5
            ·
              exact (sim_run (E := envC Go.Proofs.Try.prog imA 300 {} S.o_SB) (envC_ok hmixed S.o_SB_ok) (ps := [.br false, .br true, .br true, .at 2]) (S.op_r4 a b) ⟨⟨⟨⟨trivial, h0⟩, h1⟩, h2⟩, h5⟩).says (Says.str (by first | (simp only [S.op, h5, h4, h3, h2, h1, h0, cond_true, cond_false]; done) | (simp only [S.op]; clear hrng; simp_all only [cond_true, cond_false]; done)))
            ·
              exfalso; simp only [S.wI_id (x := b) (by omega) (by omega), Int.tmod_eq_emod_of_nonneg (show (0:Int) ≤ b by omega), inRange, Bool.and_eq_true, Bool.and_eq_false_iff, decide_eq_true_eq, decide_eq_false_iff_not, beq_eq_false_iff_ne, ne_eq] at *; omega
      ·
        exfalso; simp only [S.wI_id (x := b) (by omega) (by omega), Int.tmod_eq_emod_of_nonneg (show (0:Int) ≤ b by omega), inRange, Bool.and_eq_true, Bool.and_eq_false_iff, decide_eq_true_eq, decide_eq_false_iff_not, beq_eq_false_iff_ne, ne_eq] at *; omega
    ·
      exact (sim_run (E := envC Go.Proofs.Try.prog imA 300 {} S.o_SB) (envC_ok hmixed S.o_SB_ok) (ps := [.br false, .br false]) (S.op_r2 a b) ⟨⟨trivial, h0⟩, h1⟩).says (Says.str (by first | (simp only [S.op, h1, h0, cond_true, cond_false]; done) | (simp only [S.op]; clear hrng; simp_all only [cond_true, cond_false]; done)))
def S.o_op : Orc := orcAdd 12 (fun | [.str true a, .int true .u8 b] => some (.str true (S.op a b)) | _ => none) S.o_SB
theorem S.o_op_ok : OrcOk Go.Proofs.Try.prog S.o_op := orcAdd_ok S.o_SB_ok fun a v h => by
  try dsimp only at h
  split at h
  · rename_i a b; cases h; exact S.op_sim a b
  · cases h
