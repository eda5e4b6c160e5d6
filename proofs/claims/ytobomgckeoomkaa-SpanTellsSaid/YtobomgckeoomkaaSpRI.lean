/- The reference's operations over any text. -/
import Derived.Test.YtobomgckeoomkaaSpRG
set_option linter.unusedVariables false
set_option linter.unusedSimpArgs false
set_option maxRecDepth 100000
open Go Go.Im Go.Proofs.Try
def S.RSor_0 (a : Int) (b : Int) (c : Int) (d : Int) : Int := (bif S.rEmpty a b then (1) else (bif S.rEmpty c d then (1) else (bif a == b then (bif c == d then (bif S.rBor_1 a c != 0 then (1) else (S.rBor_0 a c)) else (S.wide_0 a b c d)) else (S.wide_0 a b c d))))
def S.RSor_1 (a : Int) (b : Int) (c : Int) (d : Int) : Int := (bif S.rEmpty a b then (0) else (bif S.rEmpty c d then (0) else (bif a == b then (bif c == d then (bif S.rBor_1 a c != 0 then (0) else (S.rBor_0 a c)) else (S.wide_1 a b c d)) else (S.wide_1 a b c d))))
theorem S.RSor_r0 (a : Int) (b : Int) (c : Int) (d : Int) : run (envC prog imA 300 {} S.o_RTne) 16 [.str false ⟨#[124]⟩, .agg [.int true .i64 a, .int true .i64 b], .agg [.int true .i64 c, .int true .i64 d]] [] [.br true] = some (True ∧ S.rEmpty a b = true, V.agg [V.int false IntKind.i64 1, V.int false IntKind.i64 0], []) := by kernel_rfl
theorem S.RSor_r1 (a : Int) (b : Int) (c : Int) (d : Int) : run (envC prog imA 300 {} S.o_RTne) 16 [.str false ⟨#[124]⟩, .agg [.int true .i64 a, .int true .i64 b], .agg [.int true .i64 c, .int true .i64 d]] [] [.br false, .br true] = some ((True ∧ S.rEmpty a b = false) ∧ S.rEmpty c d = true, V.agg [V.int false IntKind.i64 1, V.int false IntKind.i64 0], []) := by kernel_rfl
theorem S.RSor_r2 (a : Int) (b : Int) (c : Int) (d : Int) : run (envC prog imA 300 {} S.o_RTne) 16 [.str false ⟨#[124]⟩, .agg [.int true .i64 a, .int true .i64 b], .agg [.int true .i64 c, .int true .i64 d]] [] [.br false, .br false, .br true, .br true, .br true] = some (((((True ∧ S.rEmpty a b = false) ∧ S.rEmpty c d = false) ∧ (a == b) = true) ∧ (c == d) = true) ∧ (S.rBor_1 a c != 0) = true, V.agg [V.int false IntKind.i64 1, V.int false IntKind.i64 0], []) := by kernel_rfl
theorem S.RSor_r3 (a : Int) (b : Int) (c : Int) (d : Int) : run (envC prog imA 300 {} S.o_RTne) 16 [.str false ⟨#[124]⟩, .agg [.int true .i64 a, .int true .i64 b], .agg [.int true .i64 c, .int true .i64 d]] [] [.br false, .br false, .br false, .res 64 (.agg [.int true .i64 (S.wide_0 a b c d), .int true .i64 (S.wide_1 a b c d)]) []] = some ((((True ∧ S.rEmpty a b = false) ∧ S.rEmpty c d = false) ∧ (a == b) = false) ∧ Sim prog 64 [.str false ⟨#[124]⟩, .agg [.int true .i64 a, .int true .i64 b], .agg [.int true .i64 c, .int true .i64 d]] [] (.agg [.int true .i64 (S.wide_0 a b c d), .int true .i64 (S.wide_1 a b c d)]) [], V.agg [V.int true IntKind.i64 (S.wide_0 a b c d), V.int true IntKind.i64 (S.wide_1 a b c d)], []) := by kernel_rfl
theorem S.RSor_r4 (a : Int) (b : Int) (c : Int) (d : Int) : run (envC prog imA 300 {} S.o_RTne) 16 [.str false ⟨#[124]⟩, .agg [.int true .i64 a, .int true .i64 b], .agg [.int true .i64 c, .int true .i64 d]] [] [.br false, .br false, .br true, .br false, .res 64 (.agg [.int true .i64 (S.wide_0 a b c d), .int true .i64 (S.wide_1 a b c d)]) []] = some (((((True ∧ S.rEmpty a b = false) ∧ S.rEmpty c d = false) ∧ (a == b) = true) ∧ (c == d) = false) ∧ Sim prog 64 [.str false ⟨#[124]⟩, .agg [.int true .i64 a, .int true .i64 b], .agg [.int true .i64 c, .int true .i64 d]] [] (.agg [.int true .i64 (S.wide_0 a b c d), .int true .i64 (S.wide_1 a b c d)]) [], V.agg [V.int true IntKind.i64 (S.wide_0 a b c d), V.int true IntKind.i64 (S.wide_1 a b c d)], []) := by kernel_rfl
theorem S.RSor_r5 (a : Int) (b : Int) (c : Int) (d : Int) : run (envC prog imA 300 {} S.o_RTne) 16 [.str false ⟨#[124]⟩, .agg [.int true .i64 a, .int true .i64 b], .agg [.int true .i64 c, .int true .i64 d]] [] [.br false, .br false, .br true, .br true, .br false] = some (((((True ∧ S.rEmpty a b = false) ∧ S.rEmpty c d = false) ∧ (a == b) = true) ∧ (c == d) = true) ∧ (S.rBor_1 a c != 0) = false, V.agg [V.int true IntKind.i64 (S.rBor_0 a c), V.int true IntKind.i64 (S.rBor_0 a c)], []) := by kernel_rfl
theorem S.RSor_sim (a : Int) (b : Int) (c : Int) (d : Int) : Sim prog 16 [.str true ⟨#[124]⟩, .agg [.int true .i64 a, .int true .i64 b], .agg [.int true .i64 c, .int true .i64 d]] [] (.agg [.int true IntKind.i64 (S.RSor_0 a b c d), .int true IntKind.i64 (S.RSor_1 a b c d)]) [] := by
  refine Sim.rng fun hrng => ?_
  try simp only [rngL, rngV, kLo, kHi] at hrng
  refine Sim.args (args' := [.str false ⟨#[124]⟩, .agg [.int true .i64 a, .int true .i64 b], .agg [.int true .i64 c, .int true .i64 d]]) ?_ (.cons (Says.str rfl) (.cons (Says.refl _) (.cons (Says.refl _) (.nil))))
  rcases Bool.eq_false_or_eq_true (S.rEmpty a b) with h0 | h0
  ·
    exact (sim_run (E := envC prog imA 300 {} S.o_RTne) (envC_ok hmixed S.o_RTne_ok) (ps := [.br true]) (S.RSor_r0 a b c d) ⟨trivial, h0⟩).says (Says.agg (.cons (Says.int (by first | (simp only [S.RSor_0, h0, cond_true, cond_false]; done) | (simp only [S.RSor_0]; clear hrng; simp_all only [cond_true, cond_false]; done))) (.cons (Says.int (by first | (simp only [S.RSor_1, h0, cond_true, cond_false]; done) | (simp only [S.RSor_1]; clear hrng; simp_all only [cond_true, cond_false]; done))) (.nil))))
  ·
    rcases Bool.eq_false_or_eq_true (S.rEmpty c d) with h1 | h1
    ·
      exact (sim_run (E := envC prog imA 300 {} S.o_RTne) (envC_ok hmixed S.o_RTne_ok) (ps := [.br false, .br true]) (S.RSor_r1 a b c d) ⟨⟨trivial, h0⟩, h1⟩).says (Says.agg (.cons (Says.int (by first | (simp only [S.RSor_0, h1, h0, cond_true, cond_false]; done) | (simp only [S.RSor_0]; clear hrng; simp_all only [cond_true, cond_false]; done))) (.cons (Says.int (by first | (simp only [S.RSor_1, h1, h0, cond_true, cond_false]; done) | (simp only [S.RSor_1]; clear hrng; simp_all only [cond_true, cond_false]; done))) (.nil))))
    ·
      rcases Bool.eq_false_or_eq_true (a == b) with h2 | h2
      ·
        rcases Bool.eq_false_or_eq_true (c == d) with h3 | h3
        ·
          rcases Bool.eq_false_or_eq_true (S.rBor_1 a c != 0) with h4 | h4
          ·
            exact (sim_run (E := envC prog imA 300 {} S.o_RTne) (envC_ok hmixed S.o_RTne_ok) (ps := [.br false, .br false, .br true, .br true, .br true]) (S.RSor_r2 a b c d) ⟨⟨⟨⟨⟨trivial, h0⟩, h1⟩, h2⟩, h3⟩, h4⟩).says (Says.agg (.cons (Says.int (by first | (simp only [S.RSor_0, h4, h3, h2, h1, h0, cond_true, cond_false]; done) | (simp only [S.RSor_0]; clear hrng; simp_all only [cond_true, cond_false]; done))) (.cons (Says.int (by first | (simp only [S.RSor_1, h4, h3, h2, h1, h0, cond_true, cond_false]; done) | (simp only [S.RSor_1]; clear hrng; simp_all only [cond_true, cond_false]; done))) (.nil))))
          ·
            exact (sim_run (E := envC prog imA 300 {} S.o_RTne) (envC_ok hmixed S.o_RTne_ok) (ps := [.br false, .br false, .br true, .br true, .br false]) (S.RSor_r5 a b c d) ⟨⟨⟨⟨⟨trivial, h0⟩, h1⟩, h2⟩, h3⟩, h4⟩).says (Says.agg (.cons (Says.int (by first | (simp only [S.RSor_0, h4, h3, h2, h1, h0, cond_true, cond_false]; done) | (simp only [S.RSor_0]; clear hrng; simp_all only [cond_true, cond_false]; done))) (.cons (Says.int (by first | (simp only [S.RSor_1, h4, h3, h2, h1, h0, cond_true, cond_false]; done) | (simp only [S.RSor_1]; clear hrng; simp_all only [cond_true, cond_false]; done))) (.nil))))
        ·
          exact (sim_run (E := envC prog imA 300 {} S.o_RTne) (envC_ok hmixed S.o_RTne_ok) (ps := [.br false, .br false, .br true, .br false, .res 64 (.agg [.int true .i64 (S.wide_0 a b c d), .int true .i64 (S.wide_1 a b c d)]) []]) (S.RSor_r4 a b c d) ⟨⟨⟨⟨⟨trivial, h0⟩, h1⟩, h2⟩, h3⟩, (S.rbor_sim a b c d (S.empF.1 h0) (S.empF.1 h1) (by simp only [S.Rg]; omega) (by simp only [S.Rg]; omega)).args (.cons (Says.str rfl) (.cons (Says.refl _) (.cons (Says.refl _) .nil)))⟩).says (Says.agg (.cons (Says.int (by first | (simp only [S.RSor_0, h3, h2, h1, h0, cond_true, cond_false]; done) | (simp only [S.RSor_0]; clear hrng; simp_all only [cond_true, cond_false]; done))) (.cons (Says.int (by first | (simp only [S.RSor_1, h3, h2, h1, h0, cond_true, cond_false]; done) | (simp only [S.RSor_1]; clear hrng; simp_all only [cond_true, cond_false]; done))) (.nil))))
      ·
        exact (sim_run (E := envC prog imA 300 {} S.o_RTne) (envC_ok hmixed S.o_RTne_ok) (ps := [.br false, .br false, .br false, .res 64 (.agg [.int true .i64 (S.wide_0 a b c d), .int true .i64 (S.wide_1 a b c d)]) []]) (S.RSor_r3 a b c d) ⟨⟨⟨⟨trivial, h0⟩, h1⟩, h2⟩, (S.rbor_sim a b c d (S.empF.1 h0) (S.empF.1 h1) (by simp only [S.Rg]; omega) (by simp only [S.Rg]; omega)).args (.cons (Says.str rfl) (.cons (Says.refl _) (.cons (Says.refl _) .nil)))⟩).says (Says.agg (.cons (Says.int (by first | (simp only [S.RSor_0, h2, h1, h0, cond_true, cond_false]; done) | (simp only [S.RSor_0]; clear hrng; simp_all only [cond_true, cond_false]; done))) (.cons (Says.int (by first | (simp only [S.RSor_1, h2, h1, h0, cond_true, cond_false]; done) | (simp only [S.RSor_1]; clear hrng; simp_all only [cond_true, cond_false]; done))) (.nil))))
def S.RSxor_0 (a : Int) (b : Int) (c : Int) (d : Int) : Int := (bif S.rEmpty a b then (1) else (bif S.rEmpty c d then (1) else (bif a == b then (bif c == d then (bif S.rBxor_1 a c != 0 then (1) else (S.rBxor_0 a c)) else (S.wide_0 a b c d)) else (S.wide_0 a b c d))))
def S.RSxor_1 (a : Int) (b : Int) (c : Int) (d : Int) : Int := (bif S.rEmpty a b then (0) else (bif S.rEmpty c d then (0) else (bif a == b then (bif c == d then (bif S.rBxor_1 a c != 0 then (0) else (S.rBxor_0 a c)) else (S.wide_1 a b c d)) else (S.wide_1 a b c d))))
theorem S.RSxor_r0 (a : Int) (b : Int) (c : Int) (d : Int) : run (envC prog imA 300 {} S.o_RTne) 16 [.str false ⟨#[94]⟩, .agg [.int true .i64 a, .int true .i64 b], .agg [.int true .i64 c, .int true .i64 d]] [] [.br true] = some (True ∧ S.rEmpty a b = true, V.agg [V.int false IntKind.i64 1, V.int false IntKind.i64 0], []) := by kernel_rfl
theorem S.RSxor_r1 (a : Int) (b : Int) (c : Int) (d : Int) : run (envC prog imA 300 {} S.o_RTne) 16 [.str false ⟨#[94]⟩, .agg [.int true .i64 a, .int true .i64 b], .agg [.int true .i64 c, .int true .i64 d]] [] [.br false, .br true] = some ((True ∧ S.rEmpty a b = false) ∧ S.rEmpty c d = true, V.agg [V.int false IntKind.i64 1, V.int false IntKind.i64 0], []) := by kernel_rfl
theorem S.RSxor_r2 (a : Int) (b : Int) (c : Int) (d : Int) : run (envC prog imA 300 {} S.o_RTne) 16 [.str false ⟨#[94]⟩, .agg [.int true .i64 a, .int true .i64 b], .agg [.int true .i64 c, .int true .i64 d]] [] [.br false, .br false, .br true, .br true, .br true] = some (((((True ∧ S.rEmpty a b = false) ∧ S.rEmpty c d = false) ∧ (a == b) = true) ∧ (c == d) = true) ∧ (S.rBxor_1 a c != 0) = true, V.agg [V.int false IntKind.i64 1, V.int false IntKind.i64 0], []) := by kernel_rfl
theorem S.RSxor_r3 (a : Int) (b : Int) (c : Int) (d : Int) : run (envC prog imA 300 {} S.o_RTne) 16 [.str false ⟨#[94]⟩, .agg [.int true .i64 a, .int true .i64 b], .agg [.int true .i64 c, .int true .i64 d]] [] [.br false, .br false, .br false, .res 64 (.agg [.int true .i64 (S.wide_0 a b c d), .int true .i64 (S.wide_1 a b c d)]) []] = some ((((True ∧ S.rEmpty a b = false) ∧ S.rEmpty c d = false) ∧ (a == b) = false) ∧ Sim prog 64 [.str false ⟨#[94]⟩, .agg [.int true .i64 a, .int true .i64 b], .agg [.int true .i64 c, .int true .i64 d]] [] (.agg [.int true .i64 (S.wide_0 a b c d), .int true .i64 (S.wide_1 a b c d)]) [], V.agg [V.int true IntKind.i64 (S.wide_0 a b c d), V.int true IntKind.i64 (S.wide_1 a b c d)], []) := by kernel_rfl
theorem S.RSxor_r4 (a : Int) (b : Int) (c : Int) (d : Int) : run (envC prog imA 300 {} S.o_RTne) 16 [.str false ⟨#[94]⟩, .agg [.int true .i64 a, .int true .i64 b], .agg [.int true .i64 c, .int true .i64 d]] [] [.br false, .br false, .br true, .br false, .res 64 (.agg [.int true .i64 (S.wide_0 a b c d), .int true .i64 (S.wide_1 a b c d)]) []] = some (((((True ∧ S.rEmpty a b = false) ∧ S.rEmpty c d = false) ∧ (a == b) = true) ∧ (c == d) = false) ∧ Sim prog 64 [.str false ⟨#[94]⟩, .agg [.int true .i64 a, .int true .i64 b], .agg [.int true .i64 c, .int true .i64 d]] [] (.agg [.int true .i64 (S.wide_0 a b c d), .int true .i64 (S.wide_1 a b c d)]) [], V.agg [V.int true IntKind.i64 (S.wide_0 a b c d), V.int true IntKind.i64 (S.wide_1 a b c d)], []) := by kernel_rfl
theorem S.RSxor_r5 (a : Int) (b : Int) (c : Int) (d : Int) : run (envC prog imA 300 {} S.o_RTne) 16 [.str false ⟨#[94]⟩, .agg [.int true .i64 a, .int true .i64 b], .agg [.int true .i64 c, .int true .i64 d]] [] [.br false, .br false, .br true, .br true, .br false] = some (((((True ∧ S.rEmpty a b = false) ∧ S.rEmpty c d = false) ∧ (a == b) = true) ∧ (c == d) = true) ∧ (S.rBxor_1 a c != 0) = false, V.agg [V.int true IntKind.i64 (S.rBxor_0 a c), V.int true IntKind.i64 (S.rBxor_0 a c)], []) := by kernel_rfl
theorem S.RSxor_sim (a : Int) (b : Int) (c : Int) (d : Int) : Sim prog 16 [.str true ⟨#[94]⟩, .agg [.int true .i64 a, .int true .i64 b], .agg [.int true .i64 c, .int true .i64 d]] [] (.agg [.int true IntKind.i64 (S.RSxor_0 a b c d), .int true IntKind.i64 (S.RSxor_1 a b c d)]) [] := by
  refine Sim.rng fun hrng => ?_
  try simp only [rngL, rngV, kLo, kHi] at hrng
  refine Sim.args (args' := [.str false ⟨#[94]⟩, .agg [.int true .i64 a, .int true .i64 b], .agg [.int true .i64 c, .int true .i64 d]]) ?_ (.cons (Says.str rfl) (.cons (Says.refl _) (.cons (Says.refl _) (.nil))))
  rcases Bool.eq_false_or_eq_true (S.rEmpty a b) with h0 | h0
  ·
    exact (sim_run (E := envC prog imA 300 {} S.o_RTne) (envC_ok hmixed S.o_RTne_ok) (ps := [.br true]) (S.RSxor_r0 a b c d) ⟨trivial, h0⟩).says (Says.agg (.cons (Says.int (by first | (simp only [S.RSxor_0, h0, cond_true, cond_false]; done) | (simp only [S.RSxor_0]; clear hrng; simp_all only [cond_true, cond_false]; done))) (.cons (Says.int (by first | (simp only [S.RSxor_1, h0, cond_true, cond_false]; done) | (simp only [S.RSxor_1]; clear hrng; simp_all only [cond_true, cond_false]; done))) (.nil))))
  ·
    rcases Bool.eq_false_or_eq_true (S.rEmpty c d) with h1 | h1
    ·
      exact (sim_run (E := envC prog imA 300 {} S.o_RTne) (envC_ok hmixed S.o_RTne_ok) (ps := [.br false, .br true]) (S.RSxor_r1 a b c d) ⟨⟨trivial, h0⟩, h1⟩).says (Says.agg (.cons (Says.int (by first | (simp only [S.RSxor_0, h1, h0, cond_true, cond_false]; done) | (simp only [S.RSxor_0]; clear hrng; simp_all only [cond_true, cond_false]; done))) (.cons (Says.int (by first | (simp only [S.RSxor_1, h1, h0, cond_true, cond_false]; done) | (simp only [S.RSxor_1]; clear hrng; simp_all only [cond_true, cond_false]; done))) (.nil))))
    ·
      rcases Bool.eq_false_or_eq_true (a == b) with h2 | h2
      ·
        rcases Bool.eq_false_or_eq_true (c == d) with h3 | h3
        ·
          rcases Bool.eq_false_or_eq_true (S.rBxor_1 a c != 0) with h4 | h4
          ·
            exact (sim_run (E := envC prog imA 300 {} S.o_RTne) (envC_ok hmixed S.o_RTne_ok) (ps := [.br false, .br false, .br true, .br true, .br true]) (S.RSxor_r2 a b c d) ⟨⟨⟨⟨⟨trivial, h0⟩, h1⟩, h2⟩, h3⟩, h4⟩).says (Says.agg (.cons (Says.int (by first | (simp only [S.RSxor_0, h4, h3, h2, h1, h0, cond_true, cond_false]; done) | (simp only [S.RSxor_0]; clear hrng; simp_all only [cond_true, cond_false]; done))) (.cons (Says.int (by first | (simp only [S.RSxor_1, h4, h3, h2, h1, h0, cond_true, cond_false]; done) | (simp only [S.RSxor_1]; clear hrng; simp_all only [cond_true, cond_false]; done))) (.nil))))
          ·
            exact (sim_run (E := envC prog imA 300 {} S.o_RTne) (envC_ok hmixed S.o_RTne_ok) (ps := [.br false, .br false, .br true, .br true, .br false]) (S.RSxor_r5 a b c d) ⟨⟨⟨⟨⟨trivial, h0⟩, h1⟩, h2⟩, h3⟩, h4⟩).says (Says.agg (.cons (Says.int (by first | (simp only [S.RSxor_0, h4, h3, h2, h1, h0, cond_true, cond_false]; done) | (simp only [S.RSxor_0]; clear hrng; simp_all only [cond_true, cond_false]; done))) (.cons (Says.int (by first | (simp only [S.RSxor_1, h4, h3, h2, h1, h0, cond_true, cond_false]; done) | (simp only [S.RSxor_1]; clear hrng; simp_all only [cond_true, cond_false]; done))) (.nil))))
        ·
          exact (sim_run (E := envC prog imA 300 {} S.o_RTne) (envC_ok hmixed S.o_RTne_ok) (ps := [.br false, .br false, .br true, .br false, .res 64 (.agg [.int true .i64 (S.wide_0 a b c d), .int true .i64 (S.wide_1 a b c d)]) []]) (S.RSxor_r4 a b c d) ⟨⟨⟨⟨⟨trivial, h0⟩, h1⟩, h2⟩, h3⟩, (S.rbxor_sim a b c d (S.empF.1 h0) (S.empF.1 h1) (by simp only [S.Rg]; omega) (by simp only [S.Rg]; omega)).args (.cons (Says.str rfl) (.cons (Says.refl _) (.cons (Says.refl _) .nil)))⟩).says (Says.agg (.cons (Says.int (by first | (simp only [S.RSxor_0, h3, h2, h1, h0, cond_true, cond_false]; done) | (simp only [S.RSxor_0]; clear hrng; simp_all only [cond_true, cond_false]; done))) (.cons (Says.int (by first | (simp only [S.RSxor_1, h3, h2, h1, h0, cond_true, cond_false]; done) | (simp only [S.RSxor_1]; clear hrng; simp_all only [cond_true, cond_false]; done))) (.nil))))
      ·
        exact (sim_run (E := envC prog imA 300 {} S.o_RTne) (envC_ok hmixed S.o_RTne_ok) (ps := [.br false, .br false, .br false, .res 64 (.agg [.int true .i64 (S.wide_0 a b c d), .int true .i64 (S.wide_1 a b c d)]) []]) (S.RSxor_r3 a b c d) ⟨⟨⟨⟨trivial, h0⟩, h1⟩, h2⟩, (S.rbxor_sim a b c d (S.empF.1 h0) (S.empF.1 h1) (by simp only [S.Rg]; omega) (by simp only [S.Rg]; omega)).args (.cons (Says.str rfl) (.cons (Says.refl _) (.cons (Says.refl _) .nil)))⟩).says (Says.agg (.cons (Says.int (by first | (simp only [S.RSxor_0, h2, h1, h0, cond_true, cond_false]; done) | (simp only [S.RSxor_0]; clear hrng; simp_all only [cond_true, cond_false]; done))) (.cons (Says.int (by first | (simp only [S.RSxor_1, h2, h1, h0, cond_true, cond_false]; done) | (simp only [S.RSxor_1]; clear hrng; simp_all only [cond_true, cond_false]; done))) (.nil))))
namespace S
theorem e_Bor {a b c d : Int} (ra : Rg a) (rb : Rg b) (rc : Rg c) (rd : Rg d) : RSor_0 a b c d = Sor_0 a b c d ∧ RSor_1 a b c d = Sor_1 a b c d :=
  ⟨wrapR (f1 := Bor_1) (f0 := Bor_0) (r1 := rBor_1) (r0 := rBor_0) 1 rfl rfl (fun _ _ => rfl), wrapR (f1 := Bor_1) (f0 := Bor_0) (r1 := rBor_1) (r0 := rBor_0) 0 rfl rfl (fun _ _ => rfl)⟩
theorem e_Bxor {a b c d : Int} (ra : Rg a) (rb : Rg b) (rc : Rg c) (rd : Rg d) : RSxor_0 a b c d = Sxor_0 a b c d ∧ RSxor_1 a b c d = Sxor_1 a b c d :=
  ⟨wrapR (f1 := Bxor_1) (f0 := Bxor_0) (r1 := rBxor_1) (r0 := rBxor_0) 1 rfl rfl (fun _ _ => rfl), wrapR (f1 := Bxor_1) (f0 := Bxor_0) (r1 := rBxor_1) (r0 := rBxor_0) 0 rfl rfl (fun _ _ => rfl)⟩
theorem ne_toList' {t : ByteArray} {l : List UInt8} (h : ¬ t.data.toList = l) : (ByteArray.toList t == ByteArray.toList ⟨⟨l⟩⟩) = false := by
  rw [tl_data, tl_data]
  simpa using h
theorem RS_none (t : ByteArray) (a b c d : Int) (h0 : ¬ t.data.toList = [124, 124]) (h1 : ¬ t.data.toList = [38, 38]) (h2 : ¬ t.data.toList = [124]) (h3 : ¬ t.data.toList = [94]) (h4 : ¬ t.data.toList = [38]) (h5 : ¬ t.data.toList = [61, 61]) (h6 : ¬ t.data.toList = [33, 61]) (h7 : ¬ t.data.toList = [60]) (h8 : ¬ t.data.toList = [60, 61]) (h9 : ¬ t.data.toList = [62]) (h10 : ¬ t.data.toList = [62, 61]) (h11 : ¬ t.data.toList = [60, 60]) (h12 : ¬ t.data.toList = [62, 62]) (h13 : ¬ t.data.toList = [43]) (h14 : ¬ t.data.toList = [45]) (h15 : ¬ t.data.toList = [42]) (h16 : ¬ t.data.toList = [47]) (h17 : ¬ t.data.toList = [37]) : Sim prog 16 [.str true t, .agg [.int true .i64 a, .int true .i64 b], .agg [.int true .i64 c, .int true .i64 d]] [] (.agg [.int false .i64 1, .int false .i64 0]) [] := by
  have hL : (rLevel t == 0) = true := by simp only [rLevel, ne_toList h0, ne_toList h1, ne_toList h2, ne_toList h3, ne_toList h4, ne_toList h5, ne_toList h6, ne_toList h7, ne_toList h8, ne_toList h9, ne_toList h10, ne_toList h11, ne_toList h12, ne_toList h13, ne_toList h14, ne_toList h15, ne_toList h16, ne_toList h17, cond_false]; rfl
  rcases Bool.eq_false_or_eq_true (rEmpty a b) with e0 | e0
  · exact sim_run (E := envC prog imA 300 {} o_RTne) (envC_ok hmixed o_RTne_ok) (ps := [.br true]) (show run _ 16 [.str true t, .agg [.int true .i64 a, .int true .i64 b], .agg [.int true .i64 c, .int true .i64 d]] [] [.br true] = some (True ∧ rEmpty a b = true, .agg [.int false .i64 1, .int false .i64 0], []) by kernel_rfl) ⟨trivial, e0⟩
  rcases Bool.eq_false_or_eq_true (rEmpty c d) with e1 | e1
  · exact sim_run (E := envC prog imA 300 {} o_RTne) (envC_ok hmixed o_RTne_ok) (ps := [.br false, .br true]) (show run _ 16 [.str true t, .agg [.int true .i64 a, .int true .i64 b], .agg [.int true .i64 c, .int true .i64 d]] [] [.br false, .br true] = some ((True ∧ rEmpty a b = false) ∧ rEmpty c d = true, .agg [.int false .i64 1, .int false .i64 0], []) by kernel_rfl) ⟨⟨trivial, e0⟩, e1⟩
  · exact sim_run (E := envC prog imA 300 {} o_RTne) (envC_ok hmixed o_RTne_ok) (ps := [.br false, .br false, .br true]) (show run _ 16 [.str true t, .agg [.int true .i64 a, .int true .i64 b], .agg [.int true .i64 c, .int true .i64 d]] [] [.br false, .br false, .br true] = some (((True ∧ rEmpty a b = false) ∧ rEmpty c d = false) ∧ (rLevel t == 0) = true, .agg [.int false .i64 1, .int false .i64 0], []) by kernel_rfl) ⟨⟨⟨trivial, e0⟩, e1⟩, hL⟩
theorem RS_sim (t : ByteArray) (a b c d : Int) : Sim prog 16 [.str true t, .agg [.int true .i64 a, .int true .i64 b], .agg [.int true .i64 c, .int true .i64 d]] [] (.agg [.int true .i64 (SB_0 t a b c d), .int true .i64 (SB_1 t a b c d)]) [] := by
  refine Sim.rng fun hr => ?_
  simp only [rngL, rngV, kLo, kHi] at hr
  have ra : Rg a := by simp only [Rg]; omega
  have rb : Rg b := by simp only [Rg]; omega
  have rc : Rg c := by simp only [Rg]; omega
  have rd : Rg d := by simp only [Rg]; omega
  by_cases h0 : t.data.toList = [124, 124]
  · obtain rfl := ba_eq' h0; exact (RSone_sim a b c d).says (Says.agg (.cons (Says.int (e_Bone ra rb rc rd).1) (.cons (Says.int (e_Bone ra rb rc rd).2) .nil)))
  by_cases h1 : t.data.toList = [38, 38]
  · obtain rfl := ba_eq' h1; exact (RSboth_sim a b c d).says (Says.agg (.cons (Says.int (e_Bboth ra rb rc rd).1) (.cons (Says.int (e_Bboth ra rb rc rd).2) .nil)))
  by_cases h2 : t.data.toList = [124]
  · obtain rfl := ba_eq' h2; exact (RSor_sim a b c d).says (Says.agg (.cons (Says.int (e_Bor ra rb rc rd).1) (.cons (Says.int (e_Bor ra rb rc rd).2) .nil)))
  by_cases h3 : t.data.toList = [94]
  · obtain rfl := ba_eq' h3; exact (RSxor_sim a b c d).says (Says.agg (.cons (Says.int (e_Bxor ra rb rc rd).1) (.cons (Says.int (e_Bxor ra rb rc rd).2) .nil)))
  by_cases h4 : t.data.toList = [38]
  · obtain rfl := ba_eq' h4; exact (RSand_sim a b c d).says (Says.agg (.cons (Says.int (e_Band ra rb rc rd).1) (.cons (Says.int (e_Band ra rb rc rd).2) .nil)))
  by_cases h5 : t.data.toList = [61, 61]
  · obtain rfl := ba_eq' h5; exact (RSeql_sim a b c d).says (Says.agg (.cons (Says.int (e_Beq ra rb rc rd).1) (.cons (Says.int (e_Beq ra rb rc rd).2) .nil)))
  by_cases h6 : t.data.toList = [33, 61]
  · obtain rfl := ba_eq' h6; exact (RSneq_sim a b c d).says (Says.agg (.cons (Says.int (e_Bne ra rb rc rd).1) (.cons (Says.int (e_Bne ra rb rc rd).2) .nil)))
  by_cases h7 : t.data.toList = [60]
  · obtain rfl := ba_eq' h7; exact (RSlth_sim a b c d).says (Says.agg (.cons (Says.int (e_Blt ra rb rc rd).1) (.cons (Says.int (e_Blt ra rb rc rd).2) .nil)))
  by_cases h8 : t.data.toList = [60, 61]
  · obtain rfl := ba_eq' h8; exact (RSleq_sim a b c d).says (Says.agg (.cons (Says.int (e_Ble ra rb rc rd).1) (.cons (Says.int (e_Ble ra rb rc rd).2) .nil)))
  by_cases h9 : t.data.toList = [62]
  · obtain rfl := ba_eq' h9; exact (RSgth_sim a b c d).says (Says.agg (.cons (Says.int (e_Bgt ra rb rc rd).1) (.cons (Says.int (e_Bgt ra rb rc rd).2) .nil)))
  by_cases h10 : t.data.toList = [62, 61]
  · obtain rfl := ba_eq' h10; exact (RSgeq_sim a b c d).says (Says.agg (.cons (Says.int (e_Bge ra rb rc rd).1) (.cons (Says.int (e_Bge ra rb rc rd).2) .nil)))
  by_cases h11 : t.data.toList = [60, 60]
  · obtain rfl := ba_eq' h11; exact (RSleft_sim a b c d).says (Says.agg (.cons (Says.int (e_Bleft ra rb rc rd).1) (.cons (Says.int (e_Bleft ra rb rc rd).2) .nil)))
  by_cases h12 : t.data.toList = [62, 62]
  · obtain rfl := ba_eq' h12; exact (RSright_sim a b c d).says (Says.agg (.cons (Says.int (e_Bright ra rb rc rd).1) (.cons (Says.int (e_Bright ra rb rc rd).2) .nil)))
  by_cases h13 : t.data.toList = [43]
  · obtain rfl := ba_eq' h13; exact (RSadd_sim a b c d).says (Says.agg (.cons (Says.int (e_Badd ra rb rc rd).1) (.cons (Says.int (e_Badd ra rb rc rd).2) .nil)))
  by_cases h14 : t.data.toList = [45]
  · obtain rfl := ba_eq' h14; exact (RSsub_sim a b c d).says (Says.agg (.cons (Says.int (e_Bsub ra rb rc rd).1) (.cons (Says.int (e_Bsub ra rb rc rd).2) .nil)))
  by_cases h15 : t.data.toList = [42]
  · obtain rfl := ba_eq' h15; exact (RSmul_sim a b c d).says (Says.agg (.cons (Says.int (e_Bmul ra rb rc rd).1) (.cons (Says.int (e_Bmul ra rb rc rd).2) .nil)))
  by_cases h16 : t.data.toList = [47]
  · obtain rfl := ba_eq' h16; exact (RSquo_sim a b c d).says (Says.agg (.cons (Says.int (e_Bquo ra rb rc rd).1) (.cons (Says.int (e_Bquo ra rb rc rd).2) .nil)))
  by_cases h17 : t.data.toList = [37]
  · obtain rfl := ba_eq' h17; exact (RSrem_sim a b c d).says (Says.agg (.cons (Says.int (e_Brem ra rb rc rd).1) (.cons (Says.int (e_Brem ra rb rc rd).2) .nil)))
  exact (RS_none t a b c d h0 h1 h2 h3 h4 h5 h6 h7 h8 h9 h10 h11 h12 h13 h14 h15 h16 h17).says (Says.agg (.cons (Says.int (by simp only [SB_0, ne_data h0, ne_data h1, ne_data h2, ne_data h3, ne_data h4, ne_data h5, ne_data h6, ne_data h7, ne_data h8, ne_data h9, ne_data h10, ne_data h11, ne_data h12, ne_data h13, ne_data h14, ne_data h15, ne_data h16, ne_data h17, cond_false])) (.cons (Says.int (by simp only [SB_1, ne_data h0, ne_data h1, ne_data h2, ne_data h3, ne_data h4, ne_data h5, ne_data h6, ne_data h7, ne_data h8, ne_data h9, ne_data h10, ne_data h11, ne_data h12, ne_data h13, ne_data h14, ne_data h15, ne_data h16, ne_data h17, cond_false])) .nil)))
def UU_0 (t : ByteArray) (a b : Int) : Int := bif t.data.toList == [45] then Uneg_0 a b else bif t.data.toList == [126] then Unot_0 a b else bif t.data.toList == [33] then Ubang_0 a b else 1
def UU_1 (t : ByteArray) (a b : Int) : Int := bif t.data.toList == [45] then Uneg_1 a b else bif t.data.toList == [126] then Unot_1 a b else bif t.data.toList == [33] then Ubang_1 a b else 0
theorem e_Uneg {a b : Int} (ra : Rg a) (rb : Rg b) : RUneg_0 a b = Uneg_0 a b ∧ RUneg_1 a b = Uneg_1 a b := by
  simp only [RUneg_0, RUneg_1, Uneg_0, Uneg_1, rEmp, rHasE, rspan0, rspan1, Of_0, Of_1]
  by_cases h : b < a
  · have e := empT.2 h
    simp only [e, cond_true]; exact ⟨trivial, trivial⟩
  · have e := empF.2 (show a ≤ b by omega)
    simp only [e, cond_false, one1]
    by_cases k : a = b
    · subst k
      have o : One_0 a a = a := one0 rfl
      have e1 : (a == a) = true := by simp
      simp only [e1, decide_true, cond_true, o, of0, of1]
      rw [if_neg (by omega), if_neg (by omega)]; exact ⟨rfl, rfl⟩
    · have e1 : (a == b) = false := by simpa using k
      have e2 : decide (a = b) = false := decide_eq_false k
      simp only [e1, e2, cond_false]
      have hh : Has a b (-9223372036854775808) = (a == -9223372036854775808) := by
        rw [hasD, Bool.eq_iff_iff]; simp only [Rg] at *; simp; omega
      rw [hh]
      by_cases k : a = -9223372036854775808
      · have k' : (a == -9223372036854775808) = true := by simpa using k
        simp only [k', cond_true]; exact ⟨trivial, trivial⟩
      · have k' : (a == -9223372036854775808) = false := by simpa using k
        simp only [Rg] at *
        simp only [k', cond_false]
        rw [wI_id (x := 0 - a) (by omega) (by omega), wI_id (x := 0 - b) (by omega) (by omega)]
        simp only [of0, of1]
        rw [if_neg (by omega), if_neg (by omega)]; exact ⟨rfl, rfl⟩
theorem e_Unot {a b : Int} (ra : Rg a) (rb : Rg b) : RUnot_0 a b = Unot_0 a b ∧ RUnot_1 a b = Unot_1 a b := by
  by_cases h : b < a
  · simp only [RUnot_0, RUnot_1, Unot_0, Unot_1, rEmp, bif_t (empT.2 h)]; exact ⟨trivial, trivial⟩
  · have u0 : Unot_0 a b = -1 - b := by simp only [Unot_0, bif_f (empF.2 (show a ≤ b by omega))]; exact not64 rb
    have u1 : Unot_1 a b = -1 - a := by simp only [Unot_1, bif_f (empF.2 (show a ≤ b by omega))]; exact not64 ra
    simp only [Rg] at *
    rw [u0, u1]
    simp only [RUnot_0, RUnot_1, rEmp, rspan0, rspan1, bif_f (empF.2 (show a ≤ b by omega))]
    rw [wI_id (x := -1 - a) (by omega) (by omega), wI_id (x := -1 - b) (by omega) (by omega), of0, of1, if_neg (by omega), if_neg (by omega)]; exact ⟨rfl, rfl⟩
theorem e_Ubang {a b : Int} (ra : Rg a) (rb : Rg b) : RUbang_0 a b = Ubang_0 a b ∧ RUbang_1 a b = Ubang_1 a b := by
  by_cases h : b < a
  · simp only [RUbang_0, RUbang_1, Ubang_0, Ubang_1, rEmp, bif_t (empT.2 h)]; exact ⟨trivial, trivial⟩
  · have t0 := truth0 (show a ≤ b by omega)
    have t1 := truth1 (show a ≤ b by omega)
    have b0 : 0 ≤ Truth_0 a b ∧ Truth_0 a b ≤ Truth_1 a b ∧ Truth_1 a b ≤ 1 := by rw [t0, t1]; (repeat' split) <;> omega
    simp only [RUbang_0, RUbang_1, Ubang_0, Ubang_1, rEmp, rspan0, rspan1, rTruth0, rTruth1, bif_f (empF.2 (show a ≤ b by omega))]
    rw [wI_id (x := 1 - Truth_0 a b) (by omega) (by omega), wI_id (x := 1 - Truth_1 a b) (by omega) (by omega), of0, of1, if_neg (by omega), if_neg (by omega)]; exact ⟨rfl, rfl⟩
theorem U_none (t : ByteArray) (a b : Int) (h0 : ¬ t.data.toList = [45]) (h1 : ¬ t.data.toList = [126]) (h2 : ¬ t.data.toList = [33]) : Sim prog 17 [.str true t, .agg [.int true .i64 a, .int true .i64 b]] [] (.agg [.int false .i64 1, .int false .i64 0]) [] := by
  rcases Bool.eq_false_or_eq_true (Empty a b) with e0 | e0
  · exact sim_run (E := envC prog imA 300 {} o_RTne) (envC_ok hmixed o_RTne_ok) (ps := [.br true]) (show run _ 17 [.str true t, .agg [.int true .i64 a, .int true .i64 b]] [] [.br true] = some (True ∧ Empty a b = true, .agg [.int false .i64 1, .int false .i64 0], []) by kernel_rfl) ⟨trivial, e0⟩
  · exact sim_run (E := envC prog imA 300 {} o_RTne) (envC_ok hmixed o_RTne_ok) (ps := [.br false, .br false, .br false, .br false]) (show run _ 17 [.str true t, .agg [.int true .i64 a, .int true .i64 b]] [] [.br false, .br false, .br false, .br false] = some ((((True ∧ Empty a b = false) ∧ (ByteArray.toList t == ByteArray.toList ⟨#[33]⟩) = false) ∧ (ByteArray.toList t == ByteArray.toList ⟨#[126]⟩) = false) ∧ (ByteArray.toList t == ByteArray.toList ⟨#[45]⟩) = false, .agg [.int false .i64 1, .int false .i64 0], []) by kernel_rfl) ⟨⟨⟨⟨trivial, e0⟩, ne_toList' h2⟩, ne_toList' h1⟩, ne_toList' h0⟩
theorem RU_none (t : ByteArray) (a b : Int) (h0 : ¬ t.data.toList = [45]) (h1 : ¬ t.data.toList = [126]) (h2 : ¬ t.data.toList = [33]) : Sim prog 18 [.str true t, .agg [.int true .i64 a, .int true .i64 b]] [] (.agg [.int false .i64 1, .int false .i64 0]) [] := by
  rcases Bool.eq_false_or_eq_true (rEmpty a b) with e0 | e0
  · exact sim_run (E := envC prog imA 300 {} o_RTne) (envC_ok hmixed o_RTne_ok) (ps := [.br true]) (show run _ 18 [.str true t, .agg [.int true .i64 a, .int true .i64 b]] [] [.br true] = some (True ∧ rEmpty a b = true, .agg [.int false .i64 1, .int false .i64 0], []) by kernel_rfl) ⟨trivial, e0⟩
  · exact sim_run (E := envC prog imA 300 {} o_RTne) (envC_ok hmixed o_RTne_ok) (ps := [.br false, .br false, .br false, .br false]) (show run _ 18 [.str true t, .agg [.int true .i64 a, .int true .i64 b]] [] [.br false, .br false, .br false, .br false] = some ((((True ∧ rEmpty a b = false) ∧ (ByteArray.toList t == ByteArray.toList ⟨#[33]⟩) = false) ∧ (ByteArray.toList t == ByteArray.toList ⟨#[126]⟩) = false) ∧ (ByteArray.toList t == ByteArray.toList ⟨#[45]⟩) = false, .agg [.int false .i64 1, .int false .i64 0], []) by kernel_rfl) ⟨⟨⟨⟨trivial, e0⟩, ne_toList' h2⟩, ne_toList' h1⟩, ne_toList' h0⟩
theorem U_sim (t : ByteArray) (a b : Int) : Sim prog 17 [.str true t, .agg [.int true .i64 a, .int true .i64 b]] [] (.agg [.int true .i64 (UU_0 t a b), .int true .i64 (UU_1 t a b)]) [] := by
  refine Sim.rng fun hr => ?_
  simp only [rngL, rngV, kLo, kHi] at hr
  have ra : Rg a := by simp only [Rg]; omega
  have rb : Rg b := by simp only [Rg]; omega
  by_cases h0 : t.data.toList = [45]
  · obtain rfl := ba_eq' h0; exact (Uneg_sim a b).says (Says.agg (.cons (Says.int rfl) (.cons (Says.int rfl) .nil)))
  by_cases h1 : t.data.toList = [126]
  · obtain rfl := ba_eq' h1; exact (Unot_sim a b).says (Says.agg (.cons (Says.int rfl) (.cons (Says.int rfl) .nil)))
  by_cases h2 : t.data.toList = [33]
  · obtain rfl := ba_eq' h2; exact (Ubang_sim a b).says (Says.agg (.cons (Says.int rfl) (.cons (Says.int rfl) .nil)))
  exact (U_none t a b h0 h1 h2).says (Says.agg (.cons (Says.int (by simp only [UU_0, ne_data h0, ne_data h1, ne_data h2, cond_false])) (.cons (Says.int (by simp only [UU_1, ne_data h0, ne_data h1, ne_data h2, cond_false])) .nil)))
theorem RU_sim (t : ByteArray) (a b : Int) : Sim prog 18 [.str true t, .agg [.int true .i64 a, .int true .i64 b]] [] (.agg [.int true .i64 (UU_0 t a b), .int true .i64 (UU_1 t a b)]) [] := by
  refine Sim.rng fun hr => ?_
  simp only [rngL, rngV, kLo, kHi] at hr
  have ra : Rg a := by simp only [Rg]; omega
  have rb : Rg b := by simp only [Rg]; omega
  by_cases h0 : t.data.toList = [45]
  · obtain rfl := ba_eq' h0; exact (RUneg_sim a b).says (Says.agg (.cons (Says.int (e_Uneg ra rb).1) (.cons (Says.int (e_Uneg ra rb).2) .nil)))
  by_cases h1 : t.data.toList = [126]
  · obtain rfl := ba_eq' h1; exact (RUnot_sim a b).says (Says.agg (.cons (Says.int (e_Unot ra rb).1) (.cons (Says.int (e_Unot ra rb).2) .nil)))
  by_cases h2 : t.data.toList = [33]
  · obtain rfl := ba_eq' h2; exact (RUbang_sim a b).says (Says.agg (.cons (Says.int (e_Ubang ra rb).1) (.cons (Says.int (e_Ubang ra rb).2) .nil)))
  exact (RU_none t a b h0 h1 h2).says (Says.agg (.cons (Says.int (by simp only [UU_0, ne_data h0, ne_data h1, ne_data h2, cond_false])) (.cons (Says.int (by simp only [UU_1, ne_data h0, ne_data h1, ne_data h2, cond_false])) .nil)))
def SS_0 (t : ByteArray) (a b c d : Int) : Int := (bif t.data.toList == [60] then Slt_0 a b c d else (bif t.data.toList == [60, 61] then Sle_0 a b c d else (bif t.data.toList == [62] then Sgt_0 a b c d else (bif t.data.toList == [62, 61] then Sge_0 a b c d else (bif t.data.toList == [61, 61] then Seq_0 a b c d else (bif t.data.toList == [33, 61] then Sne_0 a b c d else (bif Empty a b then 1 else bif Empty c d then 1 else a)))))))
def SS_1 (t : ByteArray) (a b c d : Int) : Int := (bif t.data.toList == [60] then Slt_1 a b c d else (bif t.data.toList == [60, 61] then Sle_1 a b c d else (bif t.data.toList == [62] then Sgt_1 a b c d else (bif t.data.toList == [62, 61] then Sge_1 a b c d else (bif t.data.toList == [61, 61] then Seq_1 a b c d else (bif t.data.toList == [33, 61] then Sne_1 a b c d else (bif Empty a b then 0 else bif Empty c d then 0 else b)))))))
theorem e_Sne {a b c d : Int} : RTne_0 a b c d = Sne_0 a b c d ∧ RTne_1 a b c d = Sne_1 a b c d := by
  simp only [RTne_0, RTne_1, Sne_0, Sne_1, rEmp]
  cases e1 : Empty a b with
  | true => simp only [cond_true]; exact ⟨trivial, trivial⟩
  | false =>
    cases e2 : Empty c d with
    | true => simp only [cond_true, cond_false]; exact ⟨trivial, trivial⟩
    | false =>
      simp only [cond_false, one1]
      by_cases e : c = d
      · subst e
        have o : One_0 c c = c := one0 rfl
        rw [o]
        by_cases k1 : a = c <;> by_cases k2 : b = c <;> simp [k1, k2, Bool.cond_eq_ite] <;> (try omega) <;> (repeat' split) <;> (try omega) <;> simp_all
      · have n1 : (c != d) = true := by simpa using e
        have n2 : decide (c = d) = false := decide_eq_false e
        simp only [n1, n2, cond_true, Bool.not_false]; exact ⟨trivial, trivial⟩
theorem S_none (t : ByteArray) (a b c d : Int) (h0 : ¬ t.data.toList = [60]) (h1 : ¬ t.data.toList = [60, 61]) (h2 : ¬ t.data.toList = [62]) (h3 : ¬ t.data.toList = [62, 61]) (h4 : ¬ t.data.toList = [61, 61]) (h5 : ¬ t.data.toList = [33, 61]) : Sim prog 21 [.agg [.int true .i64 a, .int true .i64 b], .str true t, .agg [.int true .i64 c, .int true .i64 d]] [] (.agg [.int true .i64 (bif Empty a b then 1 else bif Empty c d then 1 else a), .int true .i64 (bif Empty a b then 0 else bif Empty c d then 0 else b)]) [] := by
  rcases Bool.eq_false_or_eq_true (Empty a b) with e0 | e0
  · exact (sim_run (E := envC prog imA 300 {} o_RTne) (envC_ok hmixed o_RTne_ok) (ps := [.br true]) (show run _ 21 [.agg [.int true .i64 a, .int true .i64 b], .str true t, .agg [.int true .i64 c, .int true .i64 d]] [] [.br true] = some (True ∧ Empty a b = true, .agg [.int false .i64 1, .int false .i64 0], []) by kernel_rfl) ⟨trivial, e0⟩).says (Says.agg (.cons (Says.int (by rw [e0]; rfl)) (.cons (Says.int (by rw [e0]; rfl)) .nil)))
  rcases Bool.eq_false_or_eq_true (Empty c d) with e1 | e1
  · exact (sim_run (E := envC prog imA 300 {} o_RTne) (envC_ok hmixed o_RTne_ok) (ps := [.br false, .br true]) (show run _ 21 [.agg [.int true .i64 a, .int true .i64 b], .str true t, .agg [.int true .i64 c, .int true .i64 d]] [] [.br false, .br true] = some ((True ∧ Empty a b = false) ∧ Empty c d = true, .agg [.int false .i64 1, .int false .i64 0], []) by kernel_rfl) ⟨⟨trivial, e0⟩, e1⟩).says (Says.agg (.cons (Says.int (by rw [e0, e1]; rfl)) (.cons (Says.int (by rw [e0, e1]; rfl)) .nil)))
  · exact (sim_run (E := envC prog imA 300 {} o_RTne) (envC_ok hmixed o_RTne_ok) (ps := [.br false, .br false, .br false, .br false, .br false, .br false, .br false, .br false, .br false, .br false]) (show run _ 21 [.agg [.int true .i64 a, .int true .i64 b], .str true t, .agg [.int true .i64 c, .int true .i64 d]] [] [.br false, .br false, .br false, .br false, .br false, .br false, .br false, .br false, .br false, .br false] = some ((((((((((True ∧ Empty a b = false) ∧ Empty c d = false) ∧ (ByteArray.toList t == ByteArray.toList ⟨#[60]⟩) = false) ∧ (ByteArray.toList t == ByteArray.toList ⟨#[62]⟩) = false) ∧ (ByteArray.toList t == ByteArray.toList ⟨#[60]⟩) = false) ∧ (ByteArray.toList t == ByteArray.toList ⟨#[60, 61]⟩) = false) ∧ (ByteArray.toList t == ByteArray.toList ⟨#[62]⟩) = false) ∧ (ByteArray.toList t == ByteArray.toList ⟨#[62, 61]⟩) = false) ∧ (ByteArray.toList t == ByteArray.toList ⟨#[61, 61]⟩) = false) ∧ (ByteArray.toList t == ByteArray.toList ⟨#[33, 61]⟩) = false, .agg [.int true .i64 a, .int true .i64 b], []) by kernel_rfl) ⟨⟨⟨⟨⟨⟨⟨⟨⟨⟨trivial, e0⟩, e1⟩, ne_toList' h0⟩, ne_toList' h2⟩, ne_toList' h0⟩, ne_toList' h1⟩, ne_toList' h2⟩, ne_toList' h3⟩, ne_toList' h4⟩, ne_toList' h5⟩).says (Says.agg (.cons (Says.int (by rw [e0, e1]; rfl)) (.cons (Says.int (by rw [e0, e1]; rfl)) .nil)))
theorem RT_none (t : ByteArray) (a b c d : Int) (h0 : ¬ t.data.toList = [60]) (h1 : ¬ t.data.toList = [60, 61]) (h2 : ¬ t.data.toList = [62]) (h3 : ¬ t.data.toList = [62, 61]) (h4 : ¬ t.data.toList = [61, 61]) (h5 : ¬ t.data.toList = [33, 61]) : Sim prog 22 [.agg [.int true .i64 a, .int true .i64 b], .str true t, .agg [.int true .i64 c, .int true .i64 d]] [] (.agg [.int true .i64 (bif Empty a b then 1 else bif Empty c d then 1 else a), .int true .i64 (bif Empty a b then 0 else bif Empty c d then 0 else b)]) [] := by
  rcases Bool.eq_false_or_eq_true (Empty a b) with e0 | e0
  · exact (sim_run (E := envC prog imA 300 {} o_RTne) (envC_ok hmixed o_RTne_ok) (ps := [.br true]) (show run _ 22 [.agg [.int true .i64 a, .int true .i64 b], .str true t, .agg [.int true .i64 c, .int true .i64 d]] [] [.br true] = some (True ∧ rEmpty a b = true, .agg [.int false .i64 1, .int false .i64 0], []) by kernel_rfl) ⟨trivial, e0⟩).says (Says.agg (.cons (Says.int (by rw [e0]; rfl)) (.cons (Says.int (by rw [e0]; rfl)) .nil)))
  rcases Bool.eq_false_or_eq_true (Empty c d) with e1 | e1
  · exact (sim_run (E := envC prog imA 300 {} o_RTne) (envC_ok hmixed o_RTne_ok) (ps := [.br false, .br true]) (show run _ 22 [.agg [.int true .i64 a, .int true .i64 b], .str true t, .agg [.int true .i64 c, .int true .i64 d]] [] [.br false, .br true] = some ((True ∧ rEmpty a b = false) ∧ rEmpty c d = true, .agg [.int false .i64 1, .int false .i64 0], []) by kernel_rfl) ⟨⟨trivial, e0⟩, e1⟩).says (Says.agg (.cons (Says.int (by rw [e0, e1]; rfl)) (.cons (Says.int (by rw [e0, e1]; rfl)) .nil)))
  · exact (sim_run (E := envC prog imA 300 {} o_RTne) (envC_ok hmixed o_RTne_ok) (ps := [.br false, .br false, .br false, .br false, .br false, .br false, .br false, .br false]) (show run _ 22 [.agg [.int true .i64 a, .int true .i64 b], .str true t, .agg [.int true .i64 c, .int true .i64 d]] [] [.br false, .br false, .br false, .br false, .br false, .br false, .br false, .br false] = some ((((((((True ∧ rEmpty a b = false) ∧ rEmpty c d = false) ∧ (ByteArray.toList t == ByteArray.toList ⟨#[60]⟩) = false) ∧ (ByteArray.toList t == ByteArray.toList ⟨#[60, 61]⟩) = false) ∧ (ByteArray.toList t == ByteArray.toList ⟨#[62]⟩) = false) ∧ (ByteArray.toList t == ByteArray.toList ⟨#[62, 61]⟩) = false) ∧ (ByteArray.toList t == ByteArray.toList ⟨#[61, 61]⟩) = false) ∧ (ByteArray.toList t == ByteArray.toList ⟨#[33, 61]⟩) = false, .agg [.int true .i64 a, .int true .i64 b], []) by kernel_rfl) ⟨⟨⟨⟨⟨⟨⟨⟨trivial, e0⟩, e1⟩, ne_toList' h0⟩, ne_toList' h1⟩, ne_toList' h2⟩, ne_toList' h3⟩, ne_toList' h4⟩, ne_toList' h5⟩).says (Says.agg (.cons (Says.int (by rw [e0, e1]; rfl)) (.cons (Says.int (by rw [e0, e1]; rfl)) .nil)))
theorem SS_sim (t : ByteArray) (a b c d : Int) : Sim prog 21 [.agg [.int true .i64 a, .int true .i64 b], .str true t, .agg [.int true .i64 c, .int true .i64 d]] [] (.agg [.int true .i64 (SS_0 t a b c d), .int true .i64 (SS_1 t a b c d)]) [] := by
  by_cases h0 : t.data.toList = [60]
  · obtain rfl := ba_eq' h0; exact (Slt_sim a b c d).says (Says.agg (.cons (Says.int rfl) (.cons (Says.int rfl) .nil)))
  by_cases h1 : t.data.toList = [60, 61]
  · obtain rfl := ba_eq' h1; exact (Sle_sim a b c d).says (Says.agg (.cons (Says.int rfl) (.cons (Says.int rfl) .nil)))
  by_cases h2 : t.data.toList = [62]
  · obtain rfl := ba_eq' h2; exact (Sgt_sim a b c d).says (Says.agg (.cons (Says.int rfl) (.cons (Says.int rfl) .nil)))
  by_cases h3 : t.data.toList = [62, 61]
  · obtain rfl := ba_eq' h3; exact (Sge_sim a b c d).says (Says.agg (.cons (Says.int rfl) (.cons (Says.int rfl) .nil)))
  by_cases h4 : t.data.toList = [61, 61]
  · obtain rfl := ba_eq' h4; exact (Seq_sim a b c d).says (Says.agg (.cons (Says.int rfl) (.cons (Says.int rfl) .nil)))
  by_cases h5 : t.data.toList = [33, 61]
  · obtain rfl := ba_eq' h5; exact (Sne_sim a b c d).says (Says.agg (.cons (Says.int rfl) (.cons (Says.int rfl) .nil)))
  exact (S_none t a b c d h0 h1 h2 h3 h4 h5).says (Says.agg (.cons (Says.int (by simp only [SS_0, ne_data h0, ne_data h1, ne_data h2, ne_data h3, ne_data h4, ne_data h5, cond_false])) (.cons (Says.int (by simp only [SS_1, ne_data h0, ne_data h1, ne_data h2, ne_data h3, ne_data h4, ne_data h5, cond_false])) .nil)))
theorem RT_sim (t : ByteArray) (a b c d : Int) : Sim prog 22 [.agg [.int true .i64 a, .int true .i64 b], .str true t, .agg [.int true .i64 c, .int true .i64 d]] [] (.agg [.int true .i64 (SS_0 t a b c d), .int true .i64 (SS_1 t a b c d)]) [] := by
  by_cases h0 : t.data.toList = [60]
  · obtain rfl := ba_eq' h0; exact (RTlt_sim a b c d).says (Says.agg (.cons (Says.int rfl) (.cons (Says.int rfl) .nil)))
  by_cases h1 : t.data.toList = [60, 61]
  · obtain rfl := ba_eq' h1; exact (RTle_sim a b c d).says (Says.agg (.cons (Says.int rfl) (.cons (Says.int rfl) .nil)))
  by_cases h2 : t.data.toList = [62]
  · obtain rfl := ba_eq' h2; exact (RTgt_sim a b c d).says (Says.agg (.cons (Says.int rfl) (.cons (Says.int rfl) .nil)))
  by_cases h3 : t.data.toList = [62, 61]
  · obtain rfl := ba_eq' h3; exact (RTge_sim a b c d).says (Says.agg (.cons (Says.int rfl) (.cons (Says.int rfl) .nil)))
  by_cases h4 : t.data.toList = [61, 61]
  · obtain rfl := ba_eq' h4; exact (RTeq_sim a b c d).says (Says.agg (.cons (Says.int rfl) (.cons (Says.int rfl) .nil)))
  by_cases h5 : t.data.toList = [33, 61]
  · obtain rfl := ba_eq' h5; exact (RTne_sim a b c d).says (Says.agg (.cons (Says.int e_Sne.1) (.cons (Says.int e_Sne.2) .nil)))
  exact (RT_none t a b c d h0 h1 h2 h3 h4 h5).says (Says.agg (.cons (Says.int (by simp only [SS_0, ne_data h0, ne_data h1, ne_data h2, ne_data h3, ne_data h4, ne_data h5, cond_false])) (.cons (Says.int (by simp only [SS_1, ne_data h0, ne_data h1, ne_data h2, ne_data h3, ne_data h4, ne_data h5, cond_false])) .nil)))
end S
