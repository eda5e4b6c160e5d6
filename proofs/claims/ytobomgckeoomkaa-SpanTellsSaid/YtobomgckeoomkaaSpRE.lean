import Derived.Test.YtobomgckeoomkaaSpRB
set_option linter.unusedVariables false
set_option linter.unusedSimpArgs false
set_option maxRecDepth 100000
open Go Go.Im Go.Proofs.Try
def S.rband_0 (a b c d : Int) : Int := (bif decide (a < 0) then (bif decide (c < 0) then (-9223372036854775808) else (0)) else (0))
def S.rband_1 (a b c d : Int) : Int := (bif decide (a < 0) then (bif decide (c < 0) then (9223372036854775807) else (d)) else (bif decide (c < 0) then (b) else (if true = true then if d < b then d else b else if d > b then d else b)))
theorem S.rband_r0 (a b c d : Int) : run (envC prog imA 300 {} S.o_rTraps) 64 [.str false ⟨#[38]⟩, .agg [.int true .i64 a, .int true .i64 b], .agg [.int true .i64 c, .int true .i64 d]] [] [.br true, .br true] = some ((True ∧ decide (a < 0) = true) ∧ decide (c < 0) = true, .agg [.int false .i64 (-9223372036854775808), .int false .i64 9223372036854775807], []) := by kernel_rfl
theorem S.rband_r1 (a b c d : Int) : run (envC prog imA 300 {} S.o_rTraps) 64 [.str false ⟨#[38]⟩, .agg [.int true .i64 a, .int true .i64 b], .agg [.int true .i64 c, .int true .i64 d]] [] [.br false, .br true] = some ((True ∧ decide (a < 0) = false) ∧ decide (a < 0) = true, .agg [.int false .i64 0, .int true .i64 d], []) := by kernel_rfl
theorem S.rband_r2 (a b c d : Int) : run (envC prog imA 300 {} S.o_rTraps) 64 [.str false ⟨#[38]⟩, .agg [.int true .i64 a, .int true .i64 b], .agg [.int true .i64 c, .int true .i64 d]] [] [.br false, .br false, .br true] = some (((True ∧ decide (a < 0) = false) ∧ decide (a < 0) = false) ∧ decide (c < 0) = true, .agg [.int false .i64 0, .int true .i64 b], []) := by kernel_rfl
theorem S.rband_r3 (a b c d : Int) : run (envC prog imA 300 {} S.o_rTraps) 64 [.str false ⟨#[38]⟩, .agg [.int true .i64 a, .int true .i64 b], .agg [.int true .i64 c, .int true .i64 d]] [] [.br false, .br false, .br false] = some (((True ∧ decide (a < 0) = false) ∧ decide (a < 0) = false) ∧ decide (c < 0) = false, .agg [.int false .i64 0, .int true .i64 (if true = true then if d < b then d else b else if d > b then d else b)], []) := by kernel_rfl
theorem S.rband_r4 (a b c d : Int) : run (envC prog imA 300 {} S.o_rTraps) 64 [.str false ⟨#[38]⟩, .agg [.int true .i64 a, .int true .i64 b], .agg [.int true .i64 c, .int true .i64 d]] [] [.br true, .br false, .br true] = some (((True ∧ decide (a < 0) = true) ∧ decide (c < 0) = false) ∧ decide (a < 0) = true, .agg [.int false .i64 0, .int true .i64 d], []) := by kernel_rfl
theorem S.rband_r5 (a b c d : Int) : run (envC prog imA 300 {} S.o_rTraps) 64 [.str false ⟨#[38]⟩, .agg [.int true .i64 a, .int true .i64 b], .agg [.int true .i64 c, .int true .i64 d]] [] [.br true, .br false, .br false, .br true] = some ((((True ∧ decide (a < 0) = true) ∧ decide (c < 0) = false) ∧ decide (a < 0) = false) ∧ decide (c < 0) = true, .agg [.int false .i64 0, .int true .i64 b], []) := by kernel_rfl
theorem S.rband_r6 (a b c d : Int) : run (envC prog imA 300 {} S.o_rTraps) 64 [.str false ⟨#[38]⟩, .agg [.int true .i64 a, .int true .i64 b], .agg [.int true .i64 c, .int true .i64 d]] [] [.br true, .br false, .br false, .br false] = some ((((True ∧ decide (a < 0) = true) ∧ decide (c < 0) = false) ∧ decide (a < 0) = false) ∧ decide (c < 0) = false, .agg [.int false .i64 0, .int true .i64 (if true = true then if d < b then d else b else if d > b then d else b)], []) := by kernel_rfl
theorem S.rband_sim (a b c d : Int) : Sim prog 64 [.str true ⟨#[38]⟩, .agg [.int true .i64 a, .int true .i64 b], .agg [.int true .i64 c, .int true .i64 d]] [] (.agg [.int true .i64 (S.rband_0 a b c d), .int true .i64 (S.rband_1 a b c d)]) [] := by
 refine Sim.args (args' := [.str false ⟨#[38]⟩, .agg [.int true .i64 a, .int true .i64 b], .agg [.int true .i64 c, .int true .i64 d]]) ?_ (.cons (Says.str rfl) (.cons (Says.refl _) (.cons (Says.refl _) (.nil))))
 rcases Bool.eq_false_or_eq_true (decide (a < 0)) with h0 | h0
 ·
  rcases Bool.eq_false_or_eq_true (decide (c < 0)) with h1 | h1
  ·
   exact (sim_run (S.hE S.o_rTraps_ok) (S.rband_r0 a b c d) ⟨⟨trivial, h0⟩, h1⟩).says (Says.agg (.cons (Says.int (by simp only [S.rband_0, h1, h0, cond_true, cond_false])) (.cons (Says.int (by simp only [S.rband_1, h1, h0, cond_true, cond_false])) (.nil))))
  ·
   exact (sim_run (S.hE S.o_rTraps_ok) (S.rband_r4 a b c d) ⟨⟨⟨trivial, h0⟩, h1⟩, h0⟩).says (Says.agg (.cons (Says.int (by simp only [S.rband_0, h1, h0, cond_true, cond_false])) (.cons (Says.int (by simp only [S.rband_1, h1, h0, cond_true, cond_false])) (.nil))))
 ·
  rcases Bool.eq_false_or_eq_true (decide (c < 0)) with h1 | h1
  ·
   exact (sim_run (S.hE S.o_rTraps_ok) (S.rband_r2 a b c d) ⟨⟨⟨trivial, h0⟩, h0⟩, h1⟩).says (Says.agg (.cons (Says.int (by simp only [S.rband_0, h1, h0, cond_true, cond_false])) (.cons (Says.int (by simp only [S.rband_1, h1, h0, cond_true, cond_false])) (.nil))))
  ·
   exact (sim_run (S.hE S.o_rTraps_ok) (S.rband_r3 a b c d) ⟨⟨⟨trivial, h0⟩, h0⟩, h1⟩).says (Says.agg (.cons (Says.int (by simp only [S.rband_0, h1, h0, cond_true, cond_false])) (.cons (Says.int (by simp only [S.rband_1, h1, h0, cond_true, cond_false])) (.nil))))
def S.o_rband : Orc := orcAdd 64 (fun | [.str true t0, .agg [.int true .i64 a, .int true .i64 b], .agg [.int true .i64 c, .int true .i64 d]] => (match t0.data.toList == [38] with | true => some (.agg [.int true .i64 (S.rband_0 a b c d), .int true .i64 (S.rband_1 a b c d)]) | false => none) | _ => none) S.o_rTraps
theorem S.o_rband_ok : OrcOk prog S.o_rband := orcAdd_ok S.o_rTraps_ok fun a v h => by
  try dsimp only at h
  split at h
  · rename_i t0 a b c d
    split at h
    · rename_i ht; cases h; have ht0 := ht; obtain rfl := ba_eq ht0; exact S.rband_sim a b c d
    · cases h
  · cases h
def S.RSone_0 (a b c d : Int) : Int := (bif S.rEmpty a b then (1) else (bif S.rEmpty c d then (1) else (bif a == b then (bif c == d then (bif S.rBone_1 a c != 0 then (1) else (S.rBone_0 a c)) else (S.rcone_0 a b c d)) else (S.rcone_0 a b c d))))
def S.RSone_1 (a b c d : Int) : Int := (bif S.rEmpty a b then (0) else (bif S.rEmpty c d then (0) else (bif a == b then (bif c == d then (bif S.rBone_1 a c != 0 then (0) else (S.rBone_0 a c)) else (S.rcone_1 a b c d)) else (S.rcone_1 a b c d))))
theorem S.RSone_r0 (a b c d : Int) : run (envC prog imA 300 {} S.o_rband) 16 [.str false ⟨#[124, 124]⟩, .agg [.int true .i64 a, .int true .i64 b], .agg [.int true .i64 c, .int true .i64 d]] [] [.br true] = some (True ∧ S.rEmpty a b = true, .agg [.int false .i64 1, .int false .i64 0], []) := by kernel_rfl
theorem S.RSone_r1 (a b c d : Int) : run (envC prog imA 300 {} S.o_rband) 16 [.str false ⟨#[124, 124]⟩, .agg [.int true .i64 a, .int true .i64 b], .agg [.int true .i64 c, .int true .i64 d]] [] [.br false, .br true] = some ((True ∧ S.rEmpty a b = false) ∧ S.rEmpty c d = true, .agg [.int false .i64 1, .int false .i64 0], []) := by kernel_rfl
theorem S.RSone_r2 (a b c d : Int) : run (envC prog imA 300 {} S.o_rband) 16 [.str false ⟨#[124, 124]⟩, .agg [.int true .i64 a, .int true .i64 b], .agg [.int true .i64 c, .int true .i64 d]] [] [.br false, .br false, .br true, .br true, .br true] = some (((((True ∧ S.rEmpty a b = false) ∧ S.rEmpty c d = false) ∧ (a == b) = true) ∧ (c == d) = true) ∧ (S.rBone_1 a c != 0) = true, .agg [.int false .i64 1, .int false .i64 0], []) := by kernel_rfl
theorem S.RSone_r3 (a b c d : Int) : run (envC prog imA 300 {} S.o_rband) 16 [.str false ⟨#[124, 124]⟩, .agg [.int true .i64 a, .int true .i64 b], .agg [.int true .i64 c, .int true .i64 d]] [] [.br false, .br false, .br false] = some (((True ∧ S.rEmpty a b = false) ∧ S.rEmpty c d = false) ∧ (a == b) = false, .agg [.int true .i64 (S.rcone_0 a b c d), .int true .i64 (S.rcone_1 a b c d)], []) := by kernel_rfl
theorem S.RSone_r4 (a b c d : Int) : run (envC prog imA 300 {} S.o_rband) 16 [.str false ⟨#[124, 124]⟩, .agg [.int true .i64 a, .int true .i64 b], .agg [.int true .i64 c, .int true .i64 d]] [] [.br false, .br false, .br true, .br false] = some ((((True ∧ S.rEmpty a b = false) ∧ S.rEmpty c d = false) ∧ (a == b) = true) ∧ (c == d) = false, .agg [.int true .i64 (S.rcone_0 a b c d), .int true .i64 (S.rcone_1 a b c d)], []) := by kernel_rfl
theorem S.RSone_r5 (a b c d : Int) : run (envC prog imA 300 {} S.o_rband) 16 [.str false ⟨#[124, 124]⟩, .agg [.int true .i64 a, .int true .i64 b], .agg [.int true .i64 c, .int true .i64 d]] [] [.br false, .br false, .br true, .br true, .br false] = some (((((True ∧ S.rEmpty a b = false) ∧ S.rEmpty c d = false) ∧ (a == b) = true) ∧ (c == d) = true) ∧ (S.rBone_1 a c != 0) = false, .agg [.int true .i64 (S.rBone_0 a c), .int true .i64 (S.rBone_0 a c)], []) := by kernel_rfl
theorem S.RSone_sim (a b c d : Int) : Sim prog 16 [.str true ⟨#[124, 124]⟩, .agg [.int true .i64 a, .int true .i64 b], .agg [.int true .i64 c, .int true .i64 d]] [] (.agg [.int true .i64 (S.RSone_0 a b c d), .int true .i64 (S.RSone_1 a b c d)]) [] := by
 refine Sim.args (args' := [.str false ⟨#[124, 124]⟩, .agg [.int true .i64 a, .int true .i64 b], .agg [.int true .i64 c, .int true .i64 d]]) ?_ (.cons (Says.str rfl) (.cons (Says.refl _) (.cons (Says.refl _) (.nil))))
 rcases Bool.eq_false_or_eq_true (S.rEmpty a b) with h0 | h0
 ·
  exact (sim_run (S.hE S.o_rband_ok) (S.RSone_r0 a b c d) ⟨trivial, h0⟩).says (Says.agg (.cons (Says.int (by simp only [S.RSone_0, h0, cond_true, cond_false])) (.cons (Says.int (by simp only [S.RSone_1, h0, cond_true, cond_false])) (.nil))))
 ·
  rcases Bool.eq_false_or_eq_true (S.rEmpty c d) with h1 | h1
  ·
   exact (sim_run (S.hE S.o_rband_ok) (S.RSone_r1 a b c d) ⟨⟨trivial, h0⟩, h1⟩).says (Says.agg (.cons (Says.int (by simp only [S.RSone_0, h1, h0, cond_true, cond_false])) (.cons (Says.int (by simp only [S.RSone_1, h1, h0, cond_true, cond_false])) (.nil))))
  ·
   rcases Bool.eq_false_or_eq_true (a == b) with h2 | h2
   ·
    rcases Bool.eq_false_or_eq_true (c == d) with h3 | h3
    ·
     rcases Bool.eq_false_or_eq_true (S.rBone_1 a c != 0) with h4 | h4
     ·
      exact (sim_run (S.hE S.o_rband_ok) (S.RSone_r2 a b c d) ⟨⟨⟨⟨⟨trivial, h0⟩, h1⟩, h2⟩, h3⟩, h4⟩).says (Says.agg (.cons (Says.int (by simp only [S.RSone_0, h4, h3, h2, h1, h0, cond_true, cond_false])) (.cons (Says.int (by simp only [S.RSone_1, h4, h3, h2, h1, h0, cond_true, cond_false])) (.nil))))
     ·
      exact (sim_run (S.hE S.o_rband_ok) (S.RSone_r5 a b c d) ⟨⟨⟨⟨⟨trivial, h0⟩, h1⟩, h2⟩, h3⟩, h4⟩).says (Says.agg (.cons (Says.int (by simp only [S.RSone_0, h4, h3, h2, h1, h0, cond_true, cond_false])) (.cons (Says.int (by simp only [S.RSone_1, h4, h3, h2, h1, h0, cond_true, cond_false])) (.nil))))
    ·
     exact (sim_run (S.hE S.o_rband_ok) (S.RSone_r4 a b c d) ⟨⟨⟨⟨trivial, h0⟩, h1⟩, h2⟩, h3⟩).says (Says.agg (.cons (Says.int (by simp only [S.RSone_0, h3, h2, h1, h0, cond_true, cond_false])) (.cons (Says.int (by simp only [S.RSone_1, h3, h2, h1, h0, cond_true, cond_false])) (.nil))))
   ·
    exact (sim_run (S.hE S.o_rband_ok) (S.RSone_r3 a b c d) ⟨⟨⟨trivial, h0⟩, h1⟩, h2⟩).says (Says.agg (.cons (Says.int (by simp only [S.RSone_0, h2, h1, h0, cond_true, cond_false])) (.cons (Says.int (by simp only [S.RSone_1, h2, h1, h0, cond_true, cond_false])) (.nil))))
def S.o_RSone : Orc := orcAdd 16 (fun | [.str true t0, .agg [.int true .i64 a, .int true .i64 b], .agg [.int true .i64 c, .int true .i64 d]] => (match t0.data.toList == [124, 124] with | true => some (.agg [.int true .i64 (S.RSone_0 a b c d), .int true .i64 (S.RSone_1 a b c d)]) | false => none) | _ => none) S.o_rband
theorem S.o_RSone_ok : OrcOk prog S.o_RSone := orcAdd_ok S.o_rband_ok fun a v h => by
  try dsimp only at h
  split at h
  · rename_i t0 a b c d
    split at h
    · rename_i ht; cases h; have ht0 := ht; obtain rfl := ba_eq ht0; exact S.RSone_sim a b c d
    · cases h
  · cases h
def S.RSboth_0 (a b c d : Int) : Int := (bif S.rEmpty a b then (1) else (bif S.rEmpty c d then (1) else (bif a == b then (bif c == d then (bif S.rBboth_1 a c != 0 then (1) else (S.rBboth_0 a c)) else (S.rcboth_0 a b c d)) else (S.rcboth_0 a b c d))))
def S.RSboth_1 (a b c d : Int) : Int := (bif S.rEmpty a b then (0) else (bif S.rEmpty c d then (0) else (bif a == b then (bif c == d then (bif S.rBboth_1 a c != 0 then (0) else (S.rBboth_0 a c)) else (S.rcboth_1 a b c d)) else (S.rcboth_1 a b c d))))
theorem S.RSboth_r0 (a b c d : Int) : run (envC prog imA 300 {} S.o_RSone) 16 [.str false ⟨#[38, 38]⟩, .agg [.int true .i64 a, .int true .i64 b], .agg [.int true .i64 c, .int true .i64 d]] [] [.br true] = some (True ∧ S.rEmpty a b = true, .agg [.int false .i64 1, .int false .i64 0], []) := by kernel_rfl
theorem S.RSboth_r1 (a b c d : Int) : run (envC prog imA 300 {} S.o_RSone) 16 [.str false ⟨#[38, 38]⟩, .agg [.int true .i64 a, .int true .i64 b], .agg [.int true .i64 c, .int true .i64 d]] [] [.br false, .br true] = some ((True ∧ S.rEmpty a b = false) ∧ S.rEmpty c d = true, .agg [.int false .i64 1, .int false .i64 0], []) := by kernel_rfl
theorem S.RSboth_r2 (a b c d : Int) : run (envC prog imA 300 {} S.o_RSone) 16 [.str false ⟨#[38, 38]⟩, .agg [.int true .i64 a, .int true .i64 b], .agg [.int true .i64 c, .int true .i64 d]] [] [.br false, .br false, .br true, .br true, .br true] = some (((((True ∧ S.rEmpty a b = false) ∧ S.rEmpty c d = false) ∧ (a == b) = true) ∧ (c == d) = true) ∧ (S.rBboth_1 a c != 0) = true, .agg [.int false .i64 1, .int false .i64 0], []) := by kernel_rfl
theorem S.RSboth_r3 (a b c d : Int) : run (envC prog imA 300 {} S.o_RSone) 16 [.str false ⟨#[38, 38]⟩, .agg [.int true .i64 a, .int true .i64 b], .agg [.int true .i64 c, .int true .i64 d]] [] [.br false, .br false, .br false] = some (((True ∧ S.rEmpty a b = false) ∧ S.rEmpty c d = false) ∧ (a == b) = false, .agg [.int true .i64 (S.rcboth_0 a b c d), .int true .i64 (S.rcboth_1 a b c d)], []) := by kernel_rfl
theorem S.RSboth_r4 (a b c d : Int) : run (envC prog imA 300 {} S.o_RSone) 16 [.str false ⟨#[38, 38]⟩, .agg [.int true .i64 a, .int true .i64 b], .agg [.int true .i64 c, .int true .i64 d]] [] [.br false, .br false, .br true, .br false] = some ((((True ∧ S.rEmpty a b = false) ∧ S.rEmpty c d = false) ∧ (a == b) = true) ∧ (c == d) = false, .agg [.int true .i64 (S.rcboth_0 a b c d), .int true .i64 (S.rcboth_1 a b c d)], []) := by kernel_rfl
theorem S.RSboth_r5 (a b c d : Int) : run (envC prog imA 300 {} S.o_RSone) 16 [.str false ⟨#[38, 38]⟩, .agg [.int true .i64 a, .int true .i64 b], .agg [.int true .i64 c, .int true .i64 d]] [] [.br false, .br false, .br true, .br true, .br false] = some (((((True ∧ S.rEmpty a b = false) ∧ S.rEmpty c d = false) ∧ (a == b) = true) ∧ (c == d) = true) ∧ (S.rBboth_1 a c != 0) = false, .agg [.int true .i64 (S.rBboth_0 a c), .int true .i64 (S.rBboth_0 a c)], []) := by kernel_rfl
theorem S.RSboth_sim (a b c d : Int) : Sim prog 16 [.str true ⟨#[38, 38]⟩, .agg [.int true .i64 a, .int true .i64 b], .agg [.int true .i64 c, .int true .i64 d]] [] (.agg [.int true .i64 (S.RSboth_0 a b c d), .int true .i64 (S.RSboth_1 a b c d)]) [] := by
 refine Sim.args (args' := [.str false ⟨#[38, 38]⟩, .agg [.int true .i64 a, .int true .i64 b], .agg [.int true .i64 c, .int true .i64 d]]) ?_ (.cons (Says.str rfl) (.cons (Says.refl _) (.cons (Says.refl _) (.nil))))
 rcases Bool.eq_false_or_eq_true (S.rEmpty a b) with h0 | h0
 ·
  exact (sim_run (S.hE S.o_RSone_ok) (S.RSboth_r0 a b c d) ⟨trivial, h0⟩).says (Says.agg (.cons (Says.int (by simp only [S.RSboth_0, h0, cond_true, cond_false])) (.cons (Says.int (by simp only [S.RSboth_1, h0, cond_true, cond_false])) (.nil))))
 ·
  rcases Bool.eq_false_or_eq_true (S.rEmpty c d) with h1 | h1
  ·
   exact (sim_run (S.hE S.o_RSone_ok) (S.RSboth_r1 a b c d) ⟨⟨trivial, h0⟩, h1⟩).says (Says.agg (.cons (Says.int (by simp only [S.RSboth_0, h1, h0, cond_true, cond_false])) (.cons (Says.int (by simp only [S.RSboth_1, h1, h0, cond_true, cond_false])) (.nil))))
  ·
   rcases Bool.eq_false_or_eq_true (a == b) with h2 | h2
   ·
    rcases Bool.eq_false_or_eq_true (c == d) with h3 | h3
    ·
     rcases Bool.eq_false_or_eq_true (S.rBboth_1 a c != 0) with h4 | h4
     ·
      exact (sim_run (S.hE S.o_RSone_ok) (S.RSboth_r2 a b c d) ⟨⟨⟨⟨⟨trivial, h0⟩, h1⟩, h2⟩, h3⟩, h4⟩).says (Says.agg (.cons (Says.int (by simp only [S.RSboth_0, h4, h3, h2, h1, h0, cond_true, cond_false])) (.cons (Says.int (by simp only [S.RSboth_1, h4, h3, h2, h1, h0, cond_true, cond_false])) (.nil))))
     ·
      exact (sim_run (S.hE S.o_RSone_ok) (S.RSboth_r5 a b c d) ⟨⟨⟨⟨⟨trivial, h0⟩, h1⟩, h2⟩, h3⟩, h4⟩).says (Says.agg (.cons (Says.int (by simp only [S.RSboth_0, h4, h3, h2, h1, h0, cond_true, cond_false])) (.cons (Says.int (by simp only [S.RSboth_1, h4, h3, h2, h1, h0, cond_true, cond_false])) (.nil))))
    ·
     exact (sim_run (S.hE S.o_RSone_ok) (S.RSboth_r4 a b c d) ⟨⟨⟨⟨trivial, h0⟩, h1⟩, h2⟩, h3⟩).says (Says.agg (.cons (Says.int (by simp only [S.RSboth_0, h3, h2, h1, h0, cond_true, cond_false])) (.cons (Says.int (by simp only [S.RSboth_1, h3, h2, h1, h0, cond_true, cond_false])) (.nil))))
   ·
    exact (sim_run (S.hE S.o_RSone_ok) (S.RSboth_r3 a b c d) ⟨⟨⟨trivial, h0⟩, h1⟩, h2⟩).says (Says.agg (.cons (Says.int (by simp only [S.RSboth_0, h2, h1, h0, cond_true, cond_false])) (.cons (Says.int (by simp only [S.RSboth_1, h2, h1, h0, cond_true, cond_false])) (.nil))))
def S.o_RSboth : Orc := orcAdd 16 (fun | [.str true t0, .agg [.int true .i64 a, .int true .i64 b], .agg [.int true .i64 c, .int true .i64 d]] => (match t0.data.toList == [38, 38] with | true => some (.agg [.int true .i64 (S.RSboth_0 a b c d), .int true .i64 (S.RSboth_1 a b c d)]) | false => none) | _ => none) S.o_RSone
theorem S.o_RSboth_ok : OrcOk prog S.o_RSboth := orcAdd_ok S.o_RSone_ok fun a v h => by
  try dsimp only at h
  split at h
  · rename_i t0 a b c d
    split at h
    · rename_i ht; cases h; have ht0 := ht; obtain rfl := ba_eq ht0; exact S.RSboth_sim a b c d
    · cases h
  · cases h
def S.RSand_0 (a b c d : Int) : Int := (bif S.rEmpty a b then (1) else (bif S.rEmpty c d then (1) else (bif a == b then (bif c == d then (bif S.rBand_1 a c != 0 then (1) else (S.rBand_0 a c)) else (S.rband_0 a b c d)) else (S.rband_0 a b c d))))
def S.RSand_1 (a b c d : Int) : Int := (bif S.rEmpty a b then (0) else (bif S.rEmpty c d then (0) else (bif a == b then (bif c == d then (bif S.rBand_1 a c != 0 then (0) else (S.rBand_0 a c)) else (S.rband_1 a b c d)) else (S.rband_1 a b c d))))
theorem S.RSand_r0 (a b c d : Int) : run (envC prog imA 300 {} S.o_RSboth) 16 [.str false ⟨#[38]⟩, .agg [.int true .i64 a, .int true .i64 b], .agg [.int true .i64 c, .int true .i64 d]] [] [.br true] = some (True ∧ S.rEmpty a b = true, .agg [.int false .i64 1, .int false .i64 0], []) := by kernel_rfl
theorem S.RSand_r1 (a b c d : Int) : run (envC prog imA 300 {} S.o_RSboth) 16 [.str false ⟨#[38]⟩, .agg [.int true .i64 a, .int true .i64 b], .agg [.int true .i64 c, .int true .i64 d]] [] [.br false, .br true] = some ((True ∧ S.rEmpty a b = false) ∧ S.rEmpty c d = true, .agg [.int false .i64 1, .int false .i64 0], []) := by kernel_rfl
theorem S.RSand_r2 (a b c d : Int) : run (envC prog imA 300 {} S.o_RSboth) 16 [.str false ⟨#[38]⟩, .agg [.int true .i64 a, .int true .i64 b], .agg [.int true .i64 c, .int true .i64 d]] [] [.br false, .br false, .br true, .br true, .br true] = some (((((True ∧ S.rEmpty a b = false) ∧ S.rEmpty c d = false) ∧ (a == b) = true) ∧ (c == d) = true) ∧ (S.rBand_1 a c != 0) = true, .agg [.int false .i64 1, .int false .i64 0], []) := by kernel_rfl
theorem S.RSand_r3 (a b c d : Int) : run (envC prog imA 300 {} S.o_RSboth) 16 [.str false ⟨#[38]⟩, .agg [.int true .i64 a, .int true .i64 b], .agg [.int true .i64 c, .int true .i64 d]] [] [.br false, .br false, .br false] = some (((True ∧ S.rEmpty a b = false) ∧ S.rEmpty c d = false) ∧ (a == b) = false, .agg [.int true .i64 (S.rband_0 a b c d), .int true .i64 (S.rband_1 a b c d)], []) := by kernel_rfl
theorem S.RSand_r4 (a b c d : Int) : run (envC prog imA 300 {} S.o_RSboth) 16 [.str false ⟨#[38]⟩, .agg [.int true .i64 a, .int true .i64 b], .agg [.int true .i64 c, .int true .i64 d]] [] [.br false, .br false, .br true, .br false] = some ((((True ∧ S.rEmpty a b = false) ∧ S.rEmpty c d = false) ∧ (a == b) = true) ∧ (c == d) = false, .agg [.int true .i64 (S.rband_0 a b c d), .int true .i64 (S.rband_1 a b c d)], []) := by kernel_rfl
theorem S.RSand_r5 (a b c d : Int) : run (envC prog imA 300 {} S.o_RSboth) 16 [.str false ⟨#[38]⟩, .agg [.int true .i64 a, .int true .i64 b], .agg [.int true .i64 c, .int true .i64 d]] [] [.br false, .br false, .br true, .br true, .br false] = some (((((True ∧ S.rEmpty a b = false) ∧ S.rEmpty c d = false) ∧ (a == b) = true) ∧ (c == d) = true) ∧ (S.rBand_1 a c != 0) = false, .agg [.int true .i64 (S.rBand_0 a c), .int true .i64 (S.rBand_0 a c)], []) := by kernel_rfl
theorem S.RSand_sim (a b c d : Int) : Sim prog 16 [.str true ⟨#[38]⟩, .agg [.int true .i64 a, .int true .i64 b], .agg [.int true .i64 c, .int true .i64 d]] [] (.agg [.int true .i64 (S.RSand_0 a b c d), .int true .i64 (S.RSand_1 a b c d)]) [] := by
 refine Sim.args (args' := [.str false ⟨#[38]⟩, .agg [.int true .i64 a, .int true .i64 b], .agg [.int true .i64 c, .int true .i64 d]]) ?_ (.cons (Says.str rfl) (.cons (Says.refl _) (.cons (Says.refl _) (.nil))))
 rcases Bool.eq_false_or_eq_true (S.rEmpty a b) with h0 | h0
 ·
  exact (sim_run (S.hE S.o_RSboth_ok) (S.RSand_r0 a b c d) ⟨trivial, h0⟩).says (Says.agg (.cons (Says.int (by simp only [S.RSand_0, h0, cond_true, cond_false])) (.cons (Says.int (by simp only [S.RSand_1, h0, cond_true, cond_false])) (.nil))))
 ·
  rcases Bool.eq_false_or_eq_true (S.rEmpty c d) with h1 | h1
  ·
   exact (sim_run (S.hE S.o_RSboth_ok) (S.RSand_r1 a b c d) ⟨⟨trivial, h0⟩, h1⟩).says (Says.agg (.cons (Says.int (by simp only [S.RSand_0, h1, h0, cond_true, cond_false])) (.cons (Says.int (by simp only [S.RSand_1, h1, h0, cond_true, cond_false])) (.nil))))
  ·
   rcases Bool.eq_false_or_eq_true (a == b) with h2 | h2
   ·
    rcases Bool.eq_false_or_eq_true (c == d) with h3 | h3
    ·
     rcases Bool.eq_false_or_eq_true (S.rBand_1 a c != 0) with h4 | h4
     ·
      exact (sim_run (S.hE S.o_RSboth_ok) (S.RSand_r2 a b c d) ⟨⟨⟨⟨⟨trivial, h0⟩, h1⟩, h2⟩, h3⟩, h4⟩).says (Says.agg (.cons (Says.int (by simp only [S.RSand_0, h4, h3, h2, h1, h0, cond_true, cond_false])) (.cons (Says.int (by simp only [S.RSand_1, h4, h3, h2, h1, h0, cond_true, cond_false])) (.nil))))
     ·
      exact (sim_run (S.hE S.o_RSboth_ok) (S.RSand_r5 a b c d) ⟨⟨⟨⟨⟨trivial, h0⟩, h1⟩, h2⟩, h3⟩, h4⟩).says (Says.agg (.cons (Says.int (by simp only [S.RSand_0, h4, h3, h2, h1, h0, cond_true, cond_false])) (.cons (Says.int (by simp only [S.RSand_1, h4, h3, h2, h1, h0, cond_true, cond_false])) (.nil))))
    ·
     exact (sim_run (S.hE S.o_RSboth_ok) (S.RSand_r4 a b c d) ⟨⟨⟨⟨trivial, h0⟩, h1⟩, h2⟩, h3⟩).says (Says.agg (.cons (Says.int (by simp only [S.RSand_0, h3, h2, h1, h0, cond_true, cond_false])) (.cons (Says.int (by simp only [S.RSand_1, h3, h2, h1, h0, cond_true, cond_false])) (.nil))))
   ·
    exact (sim_run (S.hE S.o_RSboth_ok) (S.RSand_r3 a b c d) ⟨⟨⟨trivial, h0⟩, h1⟩, h2⟩).says (Says.agg (.cons (Says.int (by simp only [S.RSand_0, h2, h1, h0, cond_true, cond_false])) (.cons (Says.int (by simp only [S.RSand_1, h2, h1, h0, cond_true, cond_false])) (.nil))))
def S.o_RSand : Orc := orcAdd 16 (fun | [.str true t0, .agg [.int true .i64 a, .int true .i64 b], .agg [.int true .i64 c, .int true .i64 d]] => (match t0.data.toList == [38] with | true => some (.agg [.int true .i64 (S.RSand_0 a b c d), .int true .i64 (S.RSand_1 a b c d)]) | false => none) | _ => none) S.o_RSboth
theorem S.o_RSand_ok : OrcOk prog S.o_RSand := orcAdd_ok S.o_RSboth_ok fun a v h => by
  try dsimp only at h
  split at h
  · rename_i t0 a b c d
    split at h
    · rename_i ht; cases h; have ht0 := ht; obtain rfl := ba_eq ht0; exact S.RSand_sim a b c d
    · cases h
  · cases h
def S.RSeql_0 (a b c d : Int) : Int := (bif S.rEmpty a b then (1) else (bif S.rEmpty c d then (1) else (bif a == b then (bif c == d then (bif S.rBeq_1 a c != 0 then (1) else (S.rBeq_0 a c)) else (S.rceq_0 a b c d)) else (S.rceq_0 a b c d))))
def S.RSeql_1 (a b c d : Int) : Int := (bif S.rEmpty a b then (0) else (bif S.rEmpty c d then (0) else (bif a == b then (bif c == d then (bif S.rBeq_1 a c != 0 then (0) else (S.rBeq_0 a c)) else (S.rceq_1 a b c d)) else (S.rceq_1 a b c d))))
theorem S.RSeql_r0 (a b c d : Int) : run (envC prog imA 300 {} S.o_RSand) 16 [.str false ⟨#[61, 61]⟩, .agg [.int true .i64 a, .int true .i64 b], .agg [.int true .i64 c, .int true .i64 d]] [] [.br true] = some (True ∧ S.rEmpty a b = true, .agg [.int false .i64 1, .int false .i64 0], []) := by kernel_rfl
theorem S.RSeql_r1 (a b c d : Int) : run (envC prog imA 300 {} S.o_RSand) 16 [.str false ⟨#[61, 61]⟩, .agg [.int true .i64 a, .int true .i64 b], .agg [.int true .i64 c, .int true .i64 d]] [] [.br false, .br true] = some ((True ∧ S.rEmpty a b = false) ∧ S.rEmpty c d = true, .agg [.int false .i64 1, .int false .i64 0], []) := by kernel_rfl
theorem S.RSeql_r2 (a b c d : Int) : run (envC prog imA 300 {} S.o_RSand) 16 [.str false ⟨#[61, 61]⟩, .agg [.int true .i64 a, .int true .i64 b], .agg [.int true .i64 c, .int true .i64 d]] [] [.br false, .br false, .br true, .br true, .br true] = some (((((True ∧ S.rEmpty a b = false) ∧ S.rEmpty c d = false) ∧ (a == b) = true) ∧ (c == d) = true) ∧ (S.rBeq_1 a c != 0) = true, .agg [.int false .i64 1, .int false .i64 0], []) := by kernel_rfl
theorem S.RSeql_r3 (a b c d : Int) : run (envC prog imA 300 {} S.o_RSand) 16 [.str false ⟨#[61, 61]⟩, .agg [.int true .i64 a, .int true .i64 b], .agg [.int true .i64 c, .int true .i64 d]] [] [.br false, .br false, .br false] = some (((True ∧ S.rEmpty a b = false) ∧ S.rEmpty c d = false) ∧ (a == b) = false, .agg [.int true .i64 (S.rceq_0 a b c d), .int true .i64 (S.rceq_1 a b c d)], []) := by kernel_rfl
theorem S.RSeql_r4 (a b c d : Int) : run (envC prog imA 300 {} S.o_RSand) 16 [.str false ⟨#[61, 61]⟩, .agg [.int true .i64 a, .int true .i64 b], .agg [.int true .i64 c, .int true .i64 d]] [] [.br false, .br false, .br true, .br false] = some ((((True ∧ S.rEmpty a b = false) ∧ S.rEmpty c d = false) ∧ (a == b) = true) ∧ (c == d) = false, .agg [.int true .i64 (S.rceq_0 a b c d), .int true .i64 (S.rceq_1 a b c d)], []) := by kernel_rfl
theorem S.RSeql_r5 (a b c d : Int) : run (envC prog imA 300 {} S.o_RSand) 16 [.str false ⟨#[61, 61]⟩, .agg [.int true .i64 a, .int true .i64 b], .agg [.int true .i64 c, .int true .i64 d]] [] [.br false, .br false, .br true, .br true, .br false] = some (((((True ∧ S.rEmpty a b = false) ∧ S.rEmpty c d = false) ∧ (a == b) = true) ∧ (c == d) = true) ∧ (S.rBeq_1 a c != 0) = false, .agg [.int true .i64 (S.rBeq_0 a c), .int true .i64 (S.rBeq_0 a c)], []) := by kernel_rfl
theorem S.RSeql_sim (a b c d : Int) : Sim prog 16 [.str true ⟨#[61, 61]⟩, .agg [.int true .i64 a, .int true .i64 b], .agg [.int true .i64 c, .int true .i64 d]] [] (.agg [.int true .i64 (S.RSeql_0 a b c d), .int true .i64 (S.RSeql_1 a b c d)]) [] := by
 refine Sim.args (args' := [.str false ⟨#[61, 61]⟩, .agg [.int true .i64 a, .int true .i64 b], .agg [.int true .i64 c, .int true .i64 d]]) ?_ (.cons (Says.str rfl) (.cons (Says.refl _) (.cons (Says.refl _) (.nil))))
 rcases Bool.eq_false_or_eq_true (S.rEmpty a b) with h0 | h0
 ·
  exact (sim_run (S.hE S.o_RSand_ok) (S.RSeql_r0 a b c d) ⟨trivial, h0⟩).says (Says.agg (.cons (Says.int (by simp only [S.RSeql_0, h0, cond_true, cond_false])) (.cons (Says.int (by simp only [S.RSeql_1, h0, cond_true, cond_false])) (.nil))))
 ·
  rcases Bool.eq_false_or_eq_true (S.rEmpty c d) with h1 | h1
  ·
   exact (sim_run (S.hE S.o_RSand_ok) (S.RSeql_r1 a b c d) ⟨⟨trivial, h0⟩, h1⟩).says (Says.agg (.cons (Says.int (by simp only [S.RSeql_0, h1, h0, cond_true, cond_false])) (.cons (Says.int (by simp only [S.RSeql_1, h1, h0, cond_true, cond_false])) (.nil))))
  ·
   rcases Bool.eq_false_or_eq_true (a == b) with h2 | h2
   ·
    rcases Bool.eq_false_or_eq_true (c == d) with h3 | h3
    ·
     rcases Bool.eq_false_or_eq_true (S.rBeq_1 a c != 0) with h4 | h4
     ·
      exact (sim_run (S.hE S.o_RSand_ok) (S.RSeql_r2 a b c d) ⟨⟨⟨⟨⟨trivial, h0⟩, h1⟩, h2⟩, h3⟩, h4⟩).says (Says.agg (.cons (Says.int (by simp only [S.RSeql_0, h4, h3, h2, h1, h0, cond_true, cond_false])) (.cons (Says.int (by simp only [S.RSeql_1, h4, h3, h2, h1, h0, cond_true, cond_false])) (.nil))))
     ·
      exact (sim_run (S.hE S.o_RSand_ok) (S.RSeql_r5 a b c d) ⟨⟨⟨⟨⟨trivial, h0⟩, h1⟩, h2⟩, h3⟩, h4⟩).says (Says.agg (.cons (Says.int (by simp only [S.RSeql_0, h4, h3, h2, h1, h0, cond_true, cond_false])) (.cons (Says.int (by simp only [S.RSeql_1, h4, h3, h2, h1, h0, cond_true, cond_false])) (.nil))))
    ·
     exact (sim_run (S.hE S.o_RSand_ok) (S.RSeql_r4 a b c d) ⟨⟨⟨⟨trivial, h0⟩, h1⟩, h2⟩, h3⟩).says (Says.agg (.cons (Says.int (by simp only [S.RSeql_0, h3, h2, h1, h0, cond_true, cond_false])) (.cons (Says.int (by simp only [S.RSeql_1, h3, h2, h1, h0, cond_true, cond_false])) (.nil))))
   ·
    exact (sim_run (S.hE S.o_RSand_ok) (S.RSeql_r3 a b c d) ⟨⟨⟨trivial, h0⟩, h1⟩, h2⟩).says (Says.agg (.cons (Says.int (by simp only [S.RSeql_0, h2, h1, h0, cond_true, cond_false])) (.cons (Says.int (by simp only [S.RSeql_1, h2, h1, h0, cond_true, cond_false])) (.nil))))
def S.o_RSeql : Orc := orcAdd 16 (fun | [.str true t0, .agg [.int true .i64 a, .int true .i64 b], .agg [.int true .i64 c, .int true .i64 d]] => (match t0.data.toList == [61, 61] with | true => some (.agg [.int true .i64 (S.RSeql_0 a b c d), .int true .i64 (S.RSeql_1 a b c d)]) | false => none) | _ => none) S.o_RSand
theorem S.o_RSeql_ok : OrcOk prog S.o_RSeql := orcAdd_ok S.o_RSand_ok fun a v h => by
  try dsimp only at h
  split at h
  · rename_i t0 a b c d
    split at h
    · rename_i ht; cases h; have ht0 := ht; obtain rfl := ba_eq ht0; exact S.RSeql_sim a b c d
    · cases h
  · cases h
def S.RSneq_0 (a b c d : Int) : Int := (bif S.rEmpty a b then (1) else (bif S.rEmpty c d then (1) else (bif a == b then (bif c == d then (bif S.rBne_1 a c != 0 then (1) else (S.rBne_0 a c)) else (S.rcne_0 a b c d)) else (S.rcne_0 a b c d))))
def S.RSneq_1 (a b c d : Int) : Int := (bif S.rEmpty a b then (0) else (bif S.rEmpty c d then (0) else (bif a == b then (bif c == d then (bif S.rBne_1 a c != 0 then (0) else (S.rBne_0 a c)) else (S.rcne_1 a b c d)) else (S.rcne_1 a b c d))))
theorem S.RSneq_r0 (a b c d : Int) : run (envC prog imA 300 {} S.o_RSeql) 16 [.str false ⟨#[33, 61]⟩, .agg [.int true .i64 a, .int true .i64 b], .agg [.int true .i64 c, .int true .i64 d]] [] [.br true] = some (True ∧ S.rEmpty a b = true, .agg [.int false .i64 1, .int false .i64 0], []) := by kernel_rfl
theorem S.RSneq_r1 (a b c d : Int) : run (envC prog imA 300 {} S.o_RSeql) 16 [.str false ⟨#[33, 61]⟩, .agg [.int true .i64 a, .int true .i64 b], .agg [.int true .i64 c, .int true .i64 d]] [] [.br false, .br true] = some ((True ∧ S.rEmpty a b = false) ∧ S.rEmpty c d = true, .agg [.int false .i64 1, .int false .i64 0], []) := by kernel_rfl
theorem S.RSneq_r2 (a b c d : Int) : run (envC prog imA 300 {} S.o_RSeql) 16 [.str false ⟨#[33, 61]⟩, .agg [.int true .i64 a, .int true .i64 b], .agg [.int true .i64 c, .int true .i64 d]] [] [.br false, .br false, .br true, .br true, .br true] = some (((((True ∧ S.rEmpty a b = false) ∧ S.rEmpty c d = false) ∧ (a == b) = true) ∧ (c == d) = true) ∧ (S.rBne_1 a c != 0) = true, .agg [.int false .i64 1, .int false .i64 0], []) := by kernel_rfl
theorem S.RSneq_r3 (a b c d : Int) : run (envC prog imA 300 {} S.o_RSeql) 16 [.str false ⟨#[33, 61]⟩, .agg [.int true .i64 a, .int true .i64 b], .agg [.int true .i64 c, .int true .i64 d]] [] [.br false, .br false, .br false] = some (((True ∧ S.rEmpty a b = false) ∧ S.rEmpty c d = false) ∧ (a == b) = false, .agg [.int true .i64 (S.rcne_0 a b c d), .int true .i64 (S.rcne_1 a b c d)], []) := by kernel_rfl
theorem S.RSneq_r4 (a b c d : Int) : run (envC prog imA 300 {} S.o_RSeql) 16 [.str false ⟨#[33, 61]⟩, .agg [.int true .i64 a, .int true .i64 b], .agg [.int true .i64 c, .int true .i64 d]] [] [.br false, .br false, .br true, .br false] = some ((((True ∧ S.rEmpty a b = false) ∧ S.rEmpty c d = false) ∧ (a == b) = true) ∧ (c == d) = false, .agg [.int true .i64 (S.rcne_0 a b c d), .int true .i64 (S.rcne_1 a b c d)], []) := by kernel_rfl
theorem S.RSneq_r5 (a b c d : Int) : run (envC prog imA 300 {} S.o_RSeql) 16 [.str false ⟨#[33, 61]⟩, .agg [.int true .i64 a, .int true .i64 b], .agg [.int true .i64 c, .int true .i64 d]] [] [.br false, .br false, .br true, .br true, .br false] = some (((((True ∧ S.rEmpty a b = false) ∧ S.rEmpty c d = false) ∧ (a == b) = true) ∧ (c == d) = true) ∧ (S.rBne_1 a c != 0) = false, .agg [.int true .i64 (S.rBne_0 a c), .int true .i64 (S.rBne_0 a c)], []) := by kernel_rfl
theorem S.RSneq_sim (a b c d : Int) : Sim prog 16 [.str true ⟨#[33, 61]⟩, .agg [.int true .i64 a, .int true .i64 b], .agg [.int true .i64 c, .int true .i64 d]] [] (.agg [.int true .i64 (S.RSneq_0 a b c d), .int true .i64 (S.RSneq_1 a b c d)]) [] := by
 refine Sim.args (args' := [.str false ⟨#[33, 61]⟩, .agg [.int true .i64 a, .int true .i64 b], .agg [.int true .i64 c, .int true .i64 d]]) ?_ (.cons (Says.str rfl) (.cons (Says.refl _) (.cons (Says.refl _) (.nil))))
 rcases Bool.eq_false_or_eq_true (S.rEmpty a b) with h0 | h0
 ·
  exact (sim_run (S.hE S.o_RSeql_ok) (S.RSneq_r0 a b c d) ⟨trivial, h0⟩).says (Says.agg (.cons (Says.int (by simp only [S.RSneq_0, h0, cond_true, cond_false])) (.cons (Says.int (by simp only [S.RSneq_1, h0, cond_true, cond_false])) (.nil))))
 ·
  rcases Bool.eq_false_or_eq_true (S.rEmpty c d) with h1 | h1
  ·
   exact (sim_run (S.hE S.o_RSeql_ok) (S.RSneq_r1 a b c d) ⟨⟨trivial, h0⟩, h1⟩).says (Says.agg (.cons (Says.int (by simp only [S.RSneq_0, h1, h0, cond_true, cond_false])) (.cons (Says.int (by simp only [S.RSneq_1, h1, h0, cond_true, cond_false])) (.nil))))
  ·
   rcases Bool.eq_false_or_eq_true (a == b) with h2 | h2
   ·
    rcases Bool.eq_false_or_eq_true (c == d) with h3 | h3
    ·
     rcases Bool.eq_false_or_eq_true (S.rBne_1 a c != 0) with h4 | h4
     ·
      exact (sim_run (S.hE S.o_RSeql_ok) (S.RSneq_r2 a b c d) ⟨⟨⟨⟨⟨trivial, h0⟩, h1⟩, h2⟩, h3⟩, h4⟩).says (Says.agg (.cons (Says.int (by simp only [S.RSneq_0, h4, h3, h2, h1, h0, cond_true, cond_false])) (.cons (Says.int (by simp only [S.RSneq_1, h4, h3, h2, h1, h0, cond_true, cond_false])) (.nil))))
     ·
      exact (sim_run (S.hE S.o_RSeql_ok) (S.RSneq_r5 a b c d) ⟨⟨⟨⟨⟨trivial, h0⟩, h1⟩, h2⟩, h3⟩, h4⟩).says (Says.agg (.cons (Says.int (by simp only [S.RSneq_0, h4, h3, h2, h1, h0, cond_true, cond_false])) (.cons (Says.int (by simp only [S.RSneq_1, h4, h3, h2, h1, h0, cond_true, cond_false])) (.nil))))
    ·
     exact (sim_run (S.hE S.o_RSeql_ok) (S.RSneq_r4 a b c d) ⟨⟨⟨⟨trivial, h0⟩, h1⟩, h2⟩, h3⟩).says (Says.agg (.cons (Says.int (by simp only [S.RSneq_0, h3, h2, h1, h0, cond_true, cond_false])) (.cons (Says.int (by simp only [S.RSneq_1, h3, h2, h1, h0, cond_true, cond_false])) (.nil))))
   ·
    exact (sim_run (S.hE S.o_RSeql_ok) (S.RSneq_r3 a b c d) ⟨⟨⟨trivial, h0⟩, h1⟩, h2⟩).says (Says.agg (.cons (Says.int (by simp only [S.RSneq_0, h2, h1, h0, cond_true, cond_false])) (.cons (Says.int (by simp only [S.RSneq_1, h2, h1, h0, cond_true, cond_false])) (.nil))))
def S.o_RSneq : Orc := orcAdd 16 (fun | [.str true t0, .agg [.int true .i64 a, .int true .i64 b], .agg [.int true .i64 c, .int true .i64 d]] => (match t0.data.toList == [33, 61] with | true => some (.agg [.int true .i64 (S.RSneq_0 a b c d), .int true .i64 (S.RSneq_1 a b c d)]) | false => none) | _ => none) S.o_RSeql
theorem S.o_RSneq_ok : OrcOk prog S.o_RSneq := orcAdd_ok S.o_RSeql_ok fun a v h => by
  try dsimp only at h
  split at h
  · rename_i t0 a b c d
    split at h
    · rename_i ht; cases h; have ht0 := ht; obtain rfl := ba_eq ht0; exact S.RSneq_sim a b c d
    · cases h
  · cases h
def S.RSlth_0 (a b c d : Int) : Int := (bif S.rEmpty a b then (1) else (bif S.rEmpty c d then (1) else (bif a == b then (bif c == d then (bif S.rBlt_1 a c != 0 then (1) else (S.rBlt_0 a c)) else (S.rclt_0 a b c d)) else (S.rclt_0 a b c d))))
def S.RSlth_1 (a b c d : Int) : Int := (bif S.rEmpty a b then (0) else (bif S.rEmpty c d then (0) else (bif a == b then (bif c == d then (bif S.rBlt_1 a c != 0 then (0) else (S.rBlt_0 a c)) else (S.rclt_1 a b c d)) else (S.rclt_1 a b c d))))
theorem S.RSlth_r0 (a b c d : Int) : run (envC prog imA 300 {} S.o_RSneq) 16 [.str false ⟨#[60]⟩, .agg [.int true .i64 a, .int true .i64 b], .agg [.int true .i64 c, .int true .i64 d]] [] [.br true] = some (True ∧ S.rEmpty a b = true, .agg [.int false .i64 1, .int false .i64 0], []) := by kernel_rfl
theorem S.RSlth_r1 (a b c d : Int) : run (envC prog imA 300 {} S.o_RSneq) 16 [.str false ⟨#[60]⟩, .agg [.int true .i64 a, .int true .i64 b], .agg [.int true .i64 c, .int true .i64 d]] [] [.br false, .br true] = some ((True ∧ S.rEmpty a b = false) ∧ S.rEmpty c d = true, .agg [.int false .i64 1, .int false .i64 0], []) := by kernel_rfl
theorem S.RSlth_r2 (a b c d : Int) : run (envC prog imA 300 {} S.o_RSneq) 16 [.str false ⟨#[60]⟩, .agg [.int true .i64 a, .int true .i64 b], .agg [.int true .i64 c, .int true .i64 d]] [] [.br false, .br false, .br true, .br true, .br true] = some (((((True ∧ S.rEmpty a b = false) ∧ S.rEmpty c d = false) ∧ (a == b) = true) ∧ (c == d) = true) ∧ (S.rBlt_1 a c != 0) = true, .agg [.int false .i64 1, .int false .i64 0], []) := by kernel_rfl
theorem S.RSlth_r3 (a b c d : Int) : run (envC prog imA 300 {} S.o_RSneq) 16 [.str false ⟨#[60]⟩, .agg [.int true .i64 a, .int true .i64 b], .agg [.int true .i64 c, .int true .i64 d]] [] [.br false, .br false, .br false] = some (((True ∧ S.rEmpty a b = false) ∧ S.rEmpty c d = false) ∧ (a == b) = false, .agg [.int true .i64 (S.rclt_0 a b c d), .int true .i64 (S.rclt_1 a b c d)], []) := by kernel_rfl
theorem S.RSlth_r4 (a b c d : Int) : run (envC prog imA 300 {} S.o_RSneq) 16 [.str false ⟨#[60]⟩, .agg [.int true .i64 a, .int true .i64 b], .agg [.int true .i64 c, .int true .i64 d]] [] [.br false, .br false, .br true, .br false] = some ((((True ∧ S.rEmpty a b = false) ∧ S.rEmpty c d = false) ∧ (a == b) = true) ∧ (c == d) = false, .agg [.int true .i64 (S.rclt_0 a b c d), .int true .i64 (S.rclt_1 a b c d)], []) := by kernel_rfl
theorem S.RSlth_r5 (a b c d : Int) : run (envC prog imA 300 {} S.o_RSneq) 16 [.str false ⟨#[60]⟩, .agg [.int true .i64 a, .int true .i64 b], .agg [.int true .i64 c, .int true .i64 d]] [] [.br false, .br false, .br true, .br true, .br false] = some (((((True ∧ S.rEmpty a b = false) ∧ S.rEmpty c d = false) ∧ (a == b) = true) ∧ (c == d) = true) ∧ (S.rBlt_1 a c != 0) = false, .agg [.int true .i64 (S.rBlt_0 a c), .int true .i64 (S.rBlt_0 a c)], []) := by kernel_rfl
theorem S.RSlth_sim (a b c d : Int) : Sim prog 16 [.str true ⟨#[60]⟩, .agg [.int true .i64 a, .int true .i64 b], .agg [.int true .i64 c, .int true .i64 d]] [] (.agg [.int true .i64 (S.RSlth_0 a b c d), .int true .i64 (S.RSlth_1 a b c d)]) [] := by
 refine Sim.args (args' := [.str false ⟨#[60]⟩, .agg [.int true .i64 a, .int true .i64 b], .agg [.int true .i64 c, .int true .i64 d]]) ?_ (.cons (Says.str rfl) (.cons (Says.refl _) (.cons (Says.refl _) (.nil))))
 rcases Bool.eq_false_or_eq_true (S.rEmpty a b) with h0 | h0
 ·
  exact (sim_run (S.hE S.o_RSneq_ok) (S.RSlth_r0 a b c d) ⟨trivial, h0⟩).says (Says.agg (.cons (Says.int (by simp only [S.RSlth_0, h0, cond_true, cond_false])) (.cons (Says.int (by simp only [S.RSlth_1, h0, cond_true, cond_false])) (.nil))))
 ·
  rcases Bool.eq_false_or_eq_true (S.rEmpty c d) with h1 | h1
  ·
   exact (sim_run (S.hE S.o_RSneq_ok) (S.RSlth_r1 a b c d) ⟨⟨trivial, h0⟩, h1⟩).says (Says.agg (.cons (Says.int (by simp only [S.RSlth_0, h1, h0, cond_true, cond_false])) (.cons (Says.int (by simp only [S.RSlth_1, h1, h0, cond_true, cond_false])) (.nil))))
  ·
   rcases Bool.eq_false_or_eq_true (a == b) with h2 | h2
   ·
    rcases Bool.eq_false_or_eq_true (c == d) with h3 | h3
    ·
     rcases Bool.eq_false_or_eq_true (S.rBlt_1 a c != 0) with h4 | h4
     ·
      exact (sim_run (S.hE S.o_RSneq_ok) (S.RSlth_r2 a b c d) ⟨⟨⟨⟨⟨trivial, h0⟩, h1⟩, h2⟩, h3⟩, h4⟩).says (Says.agg (.cons (Says.int (by simp only [S.RSlth_0, h4, h3, h2, h1, h0, cond_true, cond_false])) (.cons (Says.int (by simp only [S.RSlth_1, h4, h3, h2, h1, h0, cond_true, cond_false])) (.nil))))
     ·
      exact (sim_run (S.hE S.o_RSneq_ok) (S.RSlth_r5 a b c d) ⟨⟨⟨⟨⟨trivial, h0⟩, h1⟩, h2⟩, h3⟩, h4⟩).says (Says.agg (.cons (Says.int (by simp only [S.RSlth_0, h4, h3, h2, h1, h0, cond_true, cond_false])) (.cons (Says.int (by simp only [S.RSlth_1, h4, h3, h2, h1, h0, cond_true, cond_false])) (.nil))))
    ·
     exact (sim_run (S.hE S.o_RSneq_ok) (S.RSlth_r4 a b c d) ⟨⟨⟨⟨trivial, h0⟩, h1⟩, h2⟩, h3⟩).says (Says.agg (.cons (Says.int (by simp only [S.RSlth_0, h3, h2, h1, h0, cond_true, cond_false])) (.cons (Says.int (by simp only [S.RSlth_1, h3, h2, h1, h0, cond_true, cond_false])) (.nil))))
   ·
    exact (sim_run (S.hE S.o_RSneq_ok) (S.RSlth_r3 a b c d) ⟨⟨⟨trivial, h0⟩, h1⟩, h2⟩).says (Says.agg (.cons (Says.int (by simp only [S.RSlth_0, h2, h1, h0, cond_true, cond_false])) (.cons (Says.int (by simp only [S.RSlth_1, h2, h1, h0, cond_true, cond_false])) (.nil))))
def S.o_RSlth : Orc := orcAdd 16 (fun | [.str true t0, .agg [.int true .i64 a, .int true .i64 b], .agg [.int true .i64 c, .int true .i64 d]] => (match t0.data.toList == [60] with | true => some (.agg [.int true .i64 (S.RSlth_0 a b c d), .int true .i64 (S.RSlth_1 a b c d)]) | false => none) | _ => none) S.o_RSneq
theorem S.o_RSlth_ok : OrcOk prog S.o_RSlth := orcAdd_ok S.o_RSneq_ok fun a v h => by
  try dsimp only at h
  split at h
  · rename_i t0 a b c d
    split at h
    · rename_i ht; cases h; have ht0 := ht; obtain rfl := ba_eq ht0; exact S.RSlth_sim a b c d
    · cases h
  · cases h
def S.RSleq_0 (a b c d : Int) : Int := (bif S.rEmpty a b then (1) else (bif S.rEmpty c d then (1) else (bif a == b then (bif c == d then (bif S.rBle_1 a c != 0 then (1) else (S.rBle_0 a c)) else (S.rcle_0 a b c d)) else (S.rcle_0 a b c d))))
def S.RSleq_1 (a b c d : Int) : Int := (bif S.rEmpty a b then (0) else (bif S.rEmpty c d then (0) else (bif a == b then (bif c == d then (bif S.rBle_1 a c != 0 then (0) else (S.rBle_0 a c)) else (S.rcle_1 a b c d)) else (S.rcle_1 a b c d))))
theorem S.RSleq_r0 (a b c d : Int) : run (envC prog imA 300 {} S.o_RSlth) 16 [.str false ⟨#[60, 61]⟩, .agg [.int true .i64 a, .int true .i64 b], .agg [.int true .i64 c, .int true .i64 d]] [] [.br true] = some (True ∧ S.rEmpty a b = true, .agg [.int false .i64 1, .int false .i64 0], []) := by kernel_rfl
theorem S.RSleq_r1 (a b c d : Int) : run (envC prog imA 300 {} S.o_RSlth) 16 [.str false ⟨#[60, 61]⟩, .agg [.int true .i64 a, .int true .i64 b], .agg [.int true .i64 c, .int true .i64 d]] [] [.br false, .br true] = some ((True ∧ S.rEmpty a b = false) ∧ S.rEmpty c d = true, .agg [.int false .i64 1, .int false .i64 0], []) := by kernel_rfl
theorem S.RSleq_r2 (a b c d : Int) : run (envC prog imA 300 {} S.o_RSlth) 16 [.str false ⟨#[60, 61]⟩, .agg [.int true .i64 a, .int true .i64 b], .agg [.int true .i64 c, .int true .i64 d]] [] [.br false, .br false, .br true, .br true, .br true] = some (((((True ∧ S.rEmpty a b = false) ∧ S.rEmpty c d = false) ∧ (a == b) = true) ∧ (c == d) = true) ∧ (S.rBle_1 a c != 0) = true, .agg [.int false .i64 1, .int false .i64 0], []) := by kernel_rfl
theorem S.RSleq_r3 (a b c d : Int) : run (envC prog imA 300 {} S.o_RSlth) 16 [.str false ⟨#[60, 61]⟩, .agg [.int true .i64 a, .int true .i64 b], .agg [.int true .i64 c, .int true .i64 d]] [] [.br false, .br false, .br false] = some (((True ∧ S.rEmpty a b = false) ∧ S.rEmpty c d = false) ∧ (a == b) = false, .agg [.int true .i64 (S.rcle_0 a b c d), .int true .i64 (S.rcle_1 a b c d)], []) := by kernel_rfl
theorem S.RSleq_r4 (a b c d : Int) : run (envC prog imA 300 {} S.o_RSlth) 16 [.str false ⟨#[60, 61]⟩, .agg [.int true .i64 a, .int true .i64 b], .agg [.int true .i64 c, .int true .i64 d]] [] [.br false, .br false, .br true, .br false] = some ((((True ∧ S.rEmpty a b = false) ∧ S.rEmpty c d = false) ∧ (a == b) = true) ∧ (c == d) = false, .agg [.int true .i64 (S.rcle_0 a b c d), .int true .i64 (S.rcle_1 a b c d)], []) := by kernel_rfl
theorem S.RSleq_r5 (a b c d : Int) : run (envC prog imA 300 {} S.o_RSlth) 16 [.str false ⟨#[60, 61]⟩, .agg [.int true .i64 a, .int true .i64 b], .agg [.int true .i64 c, .int true .i64 d]] [] [.br false, .br false, .br true, .br true, .br false] = some (((((True ∧ S.rEmpty a b = false) ∧ S.rEmpty c d = false) ∧ (a == b) = true) ∧ (c == d) = true) ∧ (S.rBle_1 a c != 0) = false, .agg [.int true .i64 (S.rBle_0 a c), .int true .i64 (S.rBle_0 a c)], []) := by kernel_rfl
theorem S.RSleq_sim (a b c d : Int) : Sim prog 16 [.str true ⟨#[60, 61]⟩, .agg [.int true .i64 a, .int true .i64 b], .agg [.int true .i64 c, .int true .i64 d]] [] (.agg [.int true .i64 (S.RSleq_0 a b c d), .int true .i64 (S.RSleq_1 a b c d)]) [] := by
 refine Sim.args (args' := [.str false ⟨#[60, 61]⟩, .agg [.int true .i64 a, .int true .i64 b], .agg [.int true .i64 c, .int true .i64 d]]) ?_ (.cons (Says.str rfl) (.cons (Says.refl _) (.cons (Says.refl _) (.nil))))
 rcases Bool.eq_false_or_eq_true (S.rEmpty a b) with h0 | h0
 ·
  exact (sim_run (S.hE S.o_RSlth_ok) (S.RSleq_r0 a b c d) ⟨trivial, h0⟩).says (Says.agg (.cons (Says.int (by simp only [S.RSleq_0, h0, cond_true, cond_false])) (.cons (Says.int (by simp only [S.RSleq_1, h0, cond_true, cond_false])) (.nil))))
 ·
  rcases Bool.eq_false_or_eq_true (S.rEmpty c d) with h1 | h1
  ·
   exact (sim_run (S.hE S.o_RSlth_ok) (S.RSleq_r1 a b c d) ⟨⟨trivial, h0⟩, h1⟩).says (Says.agg (.cons (Says.int (by simp only [S.RSleq_0, h1, h0, cond_true, cond_false])) (.cons (Says.int (by simp only [S.RSleq_1, h1, h0, cond_true, cond_false])) (.nil))))
  ·
   rcases Bool.eq_false_or_eq_true (a == b) with h2 | h2
   ·
    rcases Bool.eq_false_or_eq_true (c == d) with h3 | h3
    ·
     rcases Bool.eq_false_or_eq_true (S.rBle_1 a c != 0) with h4 | h4
     ·
      exact (sim_run (S.hE S.o_RSlth_ok) (S.RSleq_r2 a b c d) ⟨⟨⟨⟨⟨trivial, h0⟩, h1⟩, h2⟩, h3⟩, h4⟩).says (Says.agg (.cons (Says.int (by simp only [S.RSleq_0, h4, h3, h2, h1, h0, cond_true, cond_false])) (.cons (Says.int (by simp only [S.RSleq_1, h4, h3, h2, h1, h0, cond_true, cond_false])) (.nil))))
     ·
      exact (sim_run (S.hE S.o_RSlth_ok) (S.RSleq_r5 a b c d) ⟨⟨⟨⟨⟨trivial, h0⟩, h1⟩, h2⟩, h3⟩, h4⟩).says (Says.agg (.cons (Says.int (by simp only [S.RSleq_0, h4, h3, h2, h1, h0, cond_true, cond_false])) (.cons (Says.int (by simp only [S.RSleq_1, h4, h3, h2, h1, h0, cond_true, cond_false])) (.nil))))
    ·
     exact (sim_run (S.hE S.o_RSlth_ok) (S.RSleq_r4 a b c d) ⟨⟨⟨⟨trivial, h0⟩, h1⟩, h2⟩, h3⟩).says (Says.agg (.cons (Says.int (by simp only [S.RSleq_0, h3, h2, h1, h0, cond_true, cond_false])) (.cons (Says.int (by simp only [S.RSleq_1, h3, h2, h1, h0, cond_true, cond_false])) (.nil))))
   ·
    exact (sim_run (S.hE S.o_RSlth_ok) (S.RSleq_r3 a b c d) ⟨⟨⟨trivial, h0⟩, h1⟩, h2⟩).says (Says.agg (.cons (Says.int (by simp only [S.RSleq_0, h2, h1, h0, cond_true, cond_false])) (.cons (Says.int (by simp only [S.RSleq_1, h2, h1, h0, cond_true, cond_false])) (.nil))))
def S.o_RSleq : Orc := orcAdd 16 (fun | [.str true t0, .agg [.int true .i64 a, .int true .i64 b], .agg [.int true .i64 c, .int true .i64 d]] => (match t0.data.toList == [60, 61] with | true => some (.agg [.int true .i64 (S.RSleq_0 a b c d), .int true .i64 (S.RSleq_1 a b c d)]) | false => none) | _ => none) S.o_RSlth
theorem S.o_RSleq_ok : OrcOk prog S.o_RSleq := orcAdd_ok S.o_RSlth_ok fun a v h => by
  try dsimp only at h
  split at h
  · rename_i t0 a b c d
    split at h
    · rename_i ht; cases h; have ht0 := ht; obtain rfl := ba_eq ht0; exact S.RSleq_sim a b c d
    · cases h
  · cases h
def S.RSgth_0 (a b c d : Int) : Int := (bif S.rEmpty a b then (1) else (bif S.rEmpty c d then (1) else (bif a == b then (bif c == d then (bif S.rBgt_1 a c != 0 then (1) else (S.rBgt_0 a c)) else (S.rcgt_0 a b c d)) else (S.rcgt_0 a b c d))))
def S.RSgth_1 (a b c d : Int) : Int := (bif S.rEmpty a b then (0) else (bif S.rEmpty c d then (0) else (bif a == b then (bif c == d then (bif S.rBgt_1 a c != 0 then (0) else (S.rBgt_0 a c)) else (S.rcgt_1 a b c d)) else (S.rcgt_1 a b c d))))
theorem S.RSgth_r0 (a b c d : Int) : run (envC prog imA 300 {} S.o_RSleq) 16 [.str false ⟨#[62]⟩, .agg [.int true .i64 a, .int true .i64 b], .agg [.int true .i64 c, .int true .i64 d]] [] [.br true] = some (True ∧ S.rEmpty a b = true, .agg [.int false .i64 1, .int false .i64 0], []) := by kernel_rfl
theorem S.RSgth_r1 (a b c d : Int) : run (envC prog imA 300 {} S.o_RSleq) 16 [.str false ⟨#[62]⟩, .agg [.int true .i64 a, .int true .i64 b], .agg [.int true .i64 c, .int true .i64 d]] [] [.br false, .br true] = some ((True ∧ S.rEmpty a b = false) ∧ S.rEmpty c d = true, .agg [.int false .i64 1, .int false .i64 0], []) := by kernel_rfl
theorem S.RSgth_r2 (a b c d : Int) : run (envC prog imA 300 {} S.o_RSleq) 16 [.str false ⟨#[62]⟩, .agg [.int true .i64 a, .int true .i64 b], .agg [.int true .i64 c, .int true .i64 d]] [] [.br false, .br false, .br true, .br true, .br true] = some (((((True ∧ S.rEmpty a b = false) ∧ S.rEmpty c d = false) ∧ (a == b) = true) ∧ (c == d) = true) ∧ (S.rBgt_1 a c != 0) = true, .agg [.int false .i64 1, .int false .i64 0], []) := by kernel_rfl
theorem S.RSgth_r3 (a b c d : Int) : run (envC prog imA 300 {} S.o_RSleq) 16 [.str false ⟨#[62]⟩, .agg [.int true .i64 a, .int true .i64 b], .agg [.int true .i64 c, .int true .i64 d]] [] [.br false, .br false, .br false] = some (((True ∧ S.rEmpty a b = false) ∧ S.rEmpty c d = false) ∧ (a == b) = false, .agg [.int true .i64 (S.rcgt_0 a b c d), .int true .i64 (S.rcgt_1 a b c d)], []) := by kernel_rfl
theorem S.RSgth_r4 (a b c d : Int) : run (envC prog imA 300 {} S.o_RSleq) 16 [.str false ⟨#[62]⟩, .agg [.int true .i64 a, .int true .i64 b], .agg [.int true .i64 c, .int true .i64 d]] [] [.br false, .br false, .br true, .br false] = some ((((True ∧ S.rEmpty a b = false) ∧ S.rEmpty c d = false) ∧ (a == b) = true) ∧ (c == d) = false, .agg [.int true .i64 (S.rcgt_0 a b c d), .int true .i64 (S.rcgt_1 a b c d)], []) := by kernel_rfl
theorem S.RSgth_r5 (a b c d : Int) : run (envC prog imA 300 {} S.o_RSleq) 16 [.str false ⟨#[62]⟩, .agg [.int true .i64 a, .int true .i64 b], .agg [.int true .i64 c, .int true .i64 d]] [] [.br false, .br false, .br true, .br true, .br false] = some (((((True ∧ S.rEmpty a b = false) ∧ S.rEmpty c d = false) ∧ (a == b) = true) ∧ (c == d) = true) ∧ (S.rBgt_1 a c != 0) = false, .agg [.int true .i64 (S.rBgt_0 a c), .int true .i64 (S.rBgt_0 a c)], []) := by kernel_rfl
theorem S.RSgth_sim (a b c d : Int) : Sim prog 16 [.str true ⟨#[62]⟩, .agg [.int true .i64 a, .int true .i64 b], .agg [.int true .i64 c, .int true .i64 d]] [] (.agg [.int true .i64 (S.RSgth_0 a b c d), .int true .i64 (S.RSgth_1 a b c d)]) [] := by
 refine Sim.args (args' := [.str false ⟨#[62]⟩, .agg [.int true .i64 a, .int true .i64 b], .agg [.int true .i64 c, .int true .i64 d]]) ?_ (.cons (Says.str rfl) (.cons (Says.refl _) (.cons (Says.refl _) (.nil))))
 rcases Bool.eq_false_or_eq_true (S.rEmpty a b) with h0 | h0
 ·
  exact (sim_run (S.hE S.o_RSleq_ok) (S.RSgth_r0 a b c d) ⟨trivial, h0⟩).says (Says.agg (.cons (Says.int (by simp only [S.RSgth_0, h0, cond_true, cond_false])) (.cons (Says.int (by simp only [S.RSgth_1, h0, cond_true, cond_false])) (.nil))))
 ·
  rcases Bool.eq_false_or_eq_true (S.rEmpty c d) with h1 | h1
  ·
   exact (sim_run (S.hE S.o_RSleq_ok) (S.RSgth_r1 a b c d) ⟨⟨trivial, h0⟩, h1⟩).says (Says.agg (.cons (Says.int (by simp only [S.RSgth_0, h1, h0, cond_true, cond_false])) (.cons (Says.int (by simp only [S.RSgth_1, h1, h0, cond_true, cond_false])) (.nil))))
  ·
   rcases Bool.eq_false_or_eq_true (a == b) with h2 | h2
   ·
    rcases Bool.eq_false_or_eq_true (c == d) with h3 | h3
    ·
     rcases Bool.eq_false_or_eq_true (S.rBgt_1 a c != 0) with h4 | h4
     ·
      exact (sim_run (S.hE S.o_RSleq_ok) (S.RSgth_r2 a b c d) ⟨⟨⟨⟨⟨trivial, h0⟩, h1⟩, h2⟩, h3⟩, h4⟩).says (Says.agg (.cons (Says.int (by simp only [S.RSgth_0, h4, h3, h2, h1, h0, cond_true, cond_false])) (.cons (Says.int (by simp only [S.RSgth_1, h4, h3, h2, h1, h0, cond_true, cond_false])) (.nil))))
     ·
      exact (sim_run (S.hE S.o_RSleq_ok) (S.RSgth_r5 a b c d) ⟨⟨⟨⟨⟨trivial, h0⟩, h1⟩, h2⟩, h3⟩, h4⟩).says (Says.agg (.cons (Says.int (by simp only [S.RSgth_0, h4, h3, h2, h1, h0, cond_true, cond_false])) (.cons (Says.int (by simp only [S.RSgth_1, h4, h3, h2, h1, h0, cond_true, cond_false])) (.nil))))
    ·
     exact (sim_run (S.hE S.o_RSleq_ok) (S.RSgth_r4 a b c d) ⟨⟨⟨⟨trivial, h0⟩, h1⟩, h2⟩, h3⟩).says (Says.agg (.cons (Says.int (by simp only [S.RSgth_0, h3, h2, h1, h0, cond_true, cond_false])) (.cons (Says.int (by simp only [S.RSgth_1, h3, h2, h1, h0, cond_true, cond_false])) (.nil))))
   ·
    exact (sim_run (S.hE S.o_RSleq_ok) (S.RSgth_r3 a b c d) ⟨⟨⟨trivial, h0⟩, h1⟩, h2⟩).says (Says.agg (.cons (Says.int (by simp only [S.RSgth_0, h2, h1, h0, cond_true, cond_false])) (.cons (Says.int (by simp only [S.RSgth_1, h2, h1, h0, cond_true, cond_false])) (.nil))))
def S.o_RSgth : Orc := orcAdd 16 (fun | [.str true t0, .agg [.int true .i64 a, .int true .i64 b], .agg [.int true .i64 c, .int true .i64 d]] => (match t0.data.toList == [62] with | true => some (.agg [.int true .i64 (S.RSgth_0 a b c d), .int true .i64 (S.RSgth_1 a b c d)]) | false => none) | _ => none) S.o_RSleq
theorem S.o_RSgth_ok : OrcOk prog S.o_RSgth := orcAdd_ok S.o_RSleq_ok fun a v h => by
  try dsimp only at h
  split at h
  · rename_i t0 a b c d
    split at h
    · rename_i ht; cases h; have ht0 := ht; obtain rfl := ba_eq ht0; exact S.RSgth_sim a b c d
    · cases h
  · cases h
def S.RSgeq_0 (a b c d : Int) : Int := (bif S.rEmpty a b then (1) else (bif S.rEmpty c d then (1) else (bif a == b then (bif c == d then (bif S.rBge_1 a c != 0 then (1) else (S.rBge_0 a c)) else (S.rcge_0 a b c d)) else (S.rcge_0 a b c d))))
def S.RSgeq_1 (a b c d : Int) : Int := (bif S.rEmpty a b then (0) else (bif S.rEmpty c d then (0) else (bif a == b then (bif c == d then (bif S.rBge_1 a c != 0 then (0) else (S.rBge_0 a c)) else (S.rcge_1 a b c d)) else (S.rcge_1 a b c d))))
theorem S.RSgeq_r0 (a b c d : Int) : run (envC prog imA 300 {} S.o_RSgth) 16 [.str false ⟨#[62, 61]⟩, .agg [.int true .i64 a, .int true .i64 b], .agg [.int true .i64 c, .int true .i64 d]] [] [.br true] = some (True ∧ S.rEmpty a b = true, .agg [.int false .i64 1, .int false .i64 0], []) := by kernel_rfl
theorem S.RSgeq_r1 (a b c d : Int) : run (envC prog imA 300 {} S.o_RSgth) 16 [.str false ⟨#[62, 61]⟩, .agg [.int true .i64 a, .int true .i64 b], .agg [.int true .i64 c, .int true .i64 d]] [] [.br false, .br true] = some ((True ∧ S.rEmpty a b = false) ∧ S.rEmpty c d = true, .agg [.int false .i64 1, .int false .i64 0], []) := by kernel_rfl
theorem S.RSgeq_r2 (a b c d : Int) : run (envC prog imA 300 {} S.o_RSgth) 16 [.str false ⟨#[62, 61]⟩, .agg [.int true .i64 a, .int true .i64 b], .agg [.int true .i64 c, .int true .i64 d]] [] [.br false, .br false, .br true, .br true, .br true] = some (((((True ∧ S.rEmpty a b = false) ∧ S.rEmpty c d = false) ∧ (a == b) = true) ∧ (c == d) = true) ∧ (S.rBge_1 a c != 0) = true, .agg [.int false .i64 1, .int false .i64 0], []) := by kernel_rfl
theorem S.RSgeq_r3 (a b c d : Int) : run (envC prog imA 300 {} S.o_RSgth) 16 [.str false ⟨#[62, 61]⟩, .agg [.int true .i64 a, .int true .i64 b], .agg [.int true .i64 c, .int true .i64 d]] [] [.br false, .br false, .br false] = some (((True ∧ S.rEmpty a b = false) ∧ S.rEmpty c d = false) ∧ (a == b) = false, .agg [.int true .i64 (S.rcge_0 a b c d), .int true .i64 (S.rcge_1 a b c d)], []) := by kernel_rfl
theorem S.RSgeq_r4 (a b c d : Int) : run (envC prog imA 300 {} S.o_RSgth) 16 [.str false ⟨#[62, 61]⟩, .agg [.int true .i64 a, .int true .i64 b], .agg [.int true .i64 c, .int true .i64 d]] [] [.br false, .br false, .br true, .br false] = some ((((True ∧ S.rEmpty a b = false) ∧ S.rEmpty c d = false) ∧ (a == b) = true) ∧ (c == d) = false, .agg [.int true .i64 (S.rcge_0 a b c d), .int true .i64 (S.rcge_1 a b c d)], []) := by kernel_rfl
theorem S.RSgeq_r5 (a b c d : Int) : run (envC prog imA 300 {} S.o_RSgth) 16 [.str false ⟨#[62, 61]⟩, .agg [.int true .i64 a, .int true .i64 b], .agg [.int true .i64 c, .int true .i64 d]] [] [.br false, .br false, .br true, .br true, .br false] = some (((((True ∧ S.rEmpty a b = false) ∧ S.rEmpty c d = false) ∧ (a == b) = true) ∧ (c == d) = true) ∧ (S.rBge_1 a c != 0) = false, .agg [.int true .i64 (S.rBge_0 a c), .int true .i64 (S.rBge_0 a c)], []) := by kernel_rfl
theorem S.RSgeq_sim (a b c d : Int) : Sim prog 16 [.str true ⟨#[62, 61]⟩, .agg [.int true .i64 a, .int true .i64 b], .agg [.int true .i64 c, .int true .i64 d]] [] (.agg [.int true .i64 (S.RSgeq_0 a b c d), .int true .i64 (S.RSgeq_1 a b c d)]) [] := by
 refine Sim.args (args' := [.str false ⟨#[62, 61]⟩, .agg [.int true .i64 a, .int true .i64 b], .agg [.int true .i64 c, .int true .i64 d]]) ?_ (.cons (Says.str rfl) (.cons (Says.refl _) (.cons (Says.refl _) (.nil))))
 rcases Bool.eq_false_or_eq_true (S.rEmpty a b) with h0 | h0
 ·
  exact (sim_run (S.hE S.o_RSgth_ok) (S.RSgeq_r0 a b c d) ⟨trivial, h0⟩).says (Says.agg (.cons (Says.int (by simp only [S.RSgeq_0, h0, cond_true, cond_false])) (.cons (Says.int (by simp only [S.RSgeq_1, h0, cond_true, cond_false])) (.nil))))
 ·
  rcases Bool.eq_false_or_eq_true (S.rEmpty c d) with h1 | h1
  ·
   exact (sim_run (S.hE S.o_RSgth_ok) (S.RSgeq_r1 a b c d) ⟨⟨trivial, h0⟩, h1⟩).says (Says.agg (.cons (Says.int (by simp only [S.RSgeq_0, h1, h0, cond_true, cond_false])) (.cons (Says.int (by simp only [S.RSgeq_1, h1, h0, cond_true, cond_false])) (.nil))))
  ·
   rcases Bool.eq_false_or_eq_true (a == b) with h2 | h2
   ·
    rcases Bool.eq_false_or_eq_true (c == d) with h3 | h3
    ·
     rcases Bool.eq_false_or_eq_true (S.rBge_1 a c != 0) with h4 | h4
     ·
      exact (sim_run (S.hE S.o_RSgth_ok) (S.RSgeq_r2 a b c d) ⟨⟨⟨⟨⟨trivial, h0⟩, h1⟩, h2⟩, h3⟩, h4⟩).says (Says.agg (.cons (Says.int (by simp only [S.RSgeq_0, h4, h3, h2, h1, h0, cond_true, cond_false])) (.cons (Says.int (by simp only [S.RSgeq_1, h4, h3, h2, h1, h0, cond_true, cond_false])) (.nil))))
     ·
      exact (sim_run (S.hE S.o_RSgth_ok) (S.RSgeq_r5 a b c d) ⟨⟨⟨⟨⟨trivial, h0⟩, h1⟩, h2⟩, h3⟩, h4⟩).says (Says.agg (.cons (Says.int (by simp only [S.RSgeq_0, h4, h3, h2, h1, h0, cond_true, cond_false])) (.cons (Says.int (by simp only [S.RSgeq_1, h4, h3, h2, h1, h0, cond_true, cond_false])) (.nil))))
    ·
     exact (sim_run (S.hE S.o_RSgth_ok) (S.RSgeq_r4 a b c d) ⟨⟨⟨⟨trivial, h0⟩, h1⟩, h2⟩, h3⟩).says (Says.agg (.cons (Says.int (by simp only [S.RSgeq_0, h3, h2, h1, h0, cond_true, cond_false])) (.cons (Says.int (by simp only [S.RSgeq_1, h3, h2, h1, h0, cond_true, cond_false])) (.nil))))
   ·
    exact (sim_run (S.hE S.o_RSgth_ok) (S.RSgeq_r3 a b c d) ⟨⟨⟨trivial, h0⟩, h1⟩, h2⟩).says (Says.agg (.cons (Says.int (by simp only [S.RSgeq_0, h2, h1, h0, cond_true, cond_false])) (.cons (Says.int (by simp only [S.RSgeq_1, h2, h1, h0, cond_true, cond_false])) (.nil))))
def S.o_RSgeq : Orc := orcAdd 16 (fun | [.str true t0, .agg [.int true .i64 a, .int true .i64 b], .agg [.int true .i64 c, .int true .i64 d]] => (match t0.data.toList == [62, 61] with | true => some (.agg [.int true .i64 (S.RSgeq_0 a b c d), .int true .i64 (S.RSgeq_1 a b c d)]) | false => none) | _ => none) S.o_RSgth
theorem S.o_RSgeq_ok : OrcOk prog S.o_RSgeq := orcAdd_ok S.o_RSgth_ok fun a v h => by
  try dsimp only at h
  split at h
  · rename_i t0 a b c d
    split at h
    · rename_i ht; cases h; have ht0 := ht; obtain rfl := ba_eq ht0; exact S.RSgeq_sim a b c d
    · cases h
  · cases h
def S.RSleft_0 (a b c d : Int) : Int := (bif S.rEmpty a b then (1) else (bif S.rEmpty c d then (1) else (bif a == b then (bif c == d then (bif S.rBleft_1 a c != 0 then (1) else (S.rBleft_0 a c)) else (S.rshl_0 a b c d)) else (S.rshl_0 a b c d))))
def S.RSleft_1 (a b c d : Int) : Int := (bif S.rEmpty a b then (0) else (bif S.rEmpty c d then (0) else (bif a == b then (bif c == d then (bif S.rBleft_1 a c != 0 then (0) else (S.rBleft_0 a c)) else (S.rshl_1 a b c d)) else (S.rshl_1 a b c d))))
theorem S.RSleft_r0 (a b c d : Int) : run (envC prog imA 300 {} S.o_RSgeq) 16 [.str false ⟨#[60, 60]⟩, .agg [.int true .i64 a, .int true .i64 b], .agg [.int true .i64 c, .int true .i64 d]] [] [.br true] = some (True ∧ S.rEmpty a b = true, .agg [.int false .i64 1, .int false .i64 0], []) := by kernel_rfl
theorem S.RSleft_r1 (a b c d : Int) : run (envC prog imA 300 {} S.o_RSgeq) 16 [.str false ⟨#[60, 60]⟩, .agg [.int true .i64 a, .int true .i64 b], .agg [.int true .i64 c, .int true .i64 d]] [] [.br false, .br true] = some ((True ∧ S.rEmpty a b = false) ∧ S.rEmpty c d = true, .agg [.int false .i64 1, .int false .i64 0], []) := by kernel_rfl
theorem S.RSleft_r2 (a b c d : Int) : run (envC prog imA 300 {} S.o_RSgeq) 16 [.str false ⟨#[60, 60]⟩, .agg [.int true .i64 a, .int true .i64 b], .agg [.int true .i64 c, .int true .i64 d]] [] [.br false, .br false, .br true, .br true, .br true] = some (((((True ∧ S.rEmpty a b = false) ∧ S.rEmpty c d = false) ∧ (a == b) = true) ∧ (c == d) = true) ∧ (S.rBleft_1 a c != 0) = true, .agg [.int false .i64 1, .int false .i64 0], []) := by kernel_rfl
theorem S.RSleft_r3 (a b c d : Int) : run (envC prog imA 300 {} S.o_RSgeq) 16 [.str false ⟨#[60, 60]⟩, .agg [.int true .i64 a, .int true .i64 b], .agg [.int true .i64 c, .int true .i64 d]] [] [.br false, .br false, .br false] = some (((True ∧ S.rEmpty a b = false) ∧ S.rEmpty c d = false) ∧ (a == b) = false, .agg [.int true .i64 (S.rshl_0 a b c d), .int true .i64 (S.rshl_1 a b c d)], []) := by kernel_rfl
theorem S.RSleft_r4 (a b c d : Int) : run (envC prog imA 300 {} S.o_RSgeq) 16 [.str false ⟨#[60, 60]⟩, .agg [.int true .i64 a, .int true .i64 b], .agg [.int true .i64 c, .int true .i64 d]] [] [.br false, .br false, .br true, .br false] = some ((((True ∧ S.rEmpty a b = false) ∧ S.rEmpty c d = false) ∧ (a == b) = true) ∧ (c == d) = false, .agg [.int true .i64 (S.rshl_0 a b c d), .int true .i64 (S.rshl_1 a b c d)], []) := by kernel_rfl
theorem S.RSleft_r5 (a b c d : Int) : run (envC prog imA 300 {} S.o_RSgeq) 16 [.str false ⟨#[60, 60]⟩, .agg [.int true .i64 a, .int true .i64 b], .agg [.int true .i64 c, .int true .i64 d]] [] [.br false, .br false, .br true, .br true, .br false] = some (((((True ∧ S.rEmpty a b = false) ∧ S.rEmpty c d = false) ∧ (a == b) = true) ∧ (c == d) = true) ∧ (S.rBleft_1 a c != 0) = false, .agg [.int true .i64 (S.rBleft_0 a c), .int true .i64 (S.rBleft_0 a c)], []) := by kernel_rfl
theorem S.RSleft_sim (a b c d : Int) : Sim prog 16 [.str true ⟨#[60, 60]⟩, .agg [.int true .i64 a, .int true .i64 b], .agg [.int true .i64 c, .int true .i64 d]] [] (.agg [.int true .i64 (S.RSleft_0 a b c d), .int true .i64 (S.RSleft_1 a b c d)]) [] := by
 refine Sim.args (args' := [.str false ⟨#[60, 60]⟩, .agg [.int true .i64 a, .int true .i64 b], .agg [.int true .i64 c, .int true .i64 d]]) ?_ (.cons (Says.str rfl) (.cons (Says.refl _) (.cons (Says.refl _) (.nil))))
 rcases Bool.eq_false_or_eq_true (S.rEmpty a b) with h0 | h0
 ·
  exact (sim_run (S.hE S.o_RSgeq_ok) (S.RSleft_r0 a b c d) ⟨trivial, h0⟩).says (Says.agg (.cons (Says.int (by simp only [S.RSleft_0, h0, cond_true, cond_false])) (.cons (Says.int (by simp only [S.RSleft_1, h0, cond_true, cond_false])) (.nil))))
 ·
  rcases Bool.eq_false_or_eq_true (S.rEmpty c d) with h1 | h1
  ·
   exact (sim_run (S.hE S.o_RSgeq_ok) (S.RSleft_r1 a b c d) ⟨⟨trivial, h0⟩, h1⟩).says (Says.agg (.cons (Says.int (by simp only [S.RSleft_0, h1, h0, cond_true, cond_false])) (.cons (Says.int (by simp only [S.RSleft_1, h1, h0, cond_true, cond_false])) (.nil))))
  ·
   rcases Bool.eq_false_or_eq_true (a == b) with h2 | h2
   ·
    rcases Bool.eq_false_or_eq_true (c == d) with h3 | h3
    ·
     rcases Bool.eq_false_or_eq_true (S.rBleft_1 a c != 0) with h4 | h4
     ·
      exact (sim_run (S.hE S.o_RSgeq_ok) (S.RSleft_r2 a b c d) ⟨⟨⟨⟨⟨trivial, h0⟩, h1⟩, h2⟩, h3⟩, h4⟩).says (Says.agg (.cons (Says.int (by simp only [S.RSleft_0, h4, h3, h2, h1, h0, cond_true, cond_false])) (.cons (Says.int (by simp only [S.RSleft_1, h4, h3, h2, h1, h0, cond_true, cond_false])) (.nil))))
     ·
      exact (sim_run (S.hE S.o_RSgeq_ok) (S.RSleft_r5 a b c d) ⟨⟨⟨⟨⟨trivial, h0⟩, h1⟩, h2⟩, h3⟩, h4⟩).says (Says.agg (.cons (Says.int (by simp only [S.RSleft_0, h4, h3, h2, h1, h0, cond_true, cond_false])) (.cons (Says.int (by simp only [S.RSleft_1, h4, h3, h2, h1, h0, cond_true, cond_false])) (.nil))))
    ·
     exact (sim_run (S.hE S.o_RSgeq_ok) (S.RSleft_r4 a b c d) ⟨⟨⟨⟨trivial, h0⟩, h1⟩, h2⟩, h3⟩).says (Says.agg (.cons (Says.int (by simp only [S.RSleft_0, h3, h2, h1, h0, cond_true, cond_false])) (.cons (Says.int (by simp only [S.RSleft_1, h3, h2, h1, h0, cond_true, cond_false])) (.nil))))
   ·
    exact (sim_run (S.hE S.o_RSgeq_ok) (S.RSleft_r3 a b c d) ⟨⟨⟨trivial, h0⟩, h1⟩, h2⟩).says (Says.agg (.cons (Says.int (by simp only [S.RSleft_0, h2, h1, h0, cond_true, cond_false])) (.cons (Says.int (by simp only [S.RSleft_1, h2, h1, h0, cond_true, cond_false])) (.nil))))
def S.o_RSleft : Orc := orcAdd 16 (fun | [.str true t0, .agg [.int true .i64 a, .int true .i64 b], .agg [.int true .i64 c, .int true .i64 d]] => (match t0.data.toList == [60, 60] with | true => some (.agg [.int true .i64 (S.RSleft_0 a b c d), .int true .i64 (S.RSleft_1 a b c d)]) | false => none) | _ => none) S.o_RSgeq
theorem S.o_RSleft_ok : OrcOk prog S.o_RSleft := orcAdd_ok S.o_RSgeq_ok fun a v h => by
  try dsimp only at h
  split at h
  · rename_i t0 a b c d
    split at h
    · rename_i ht; cases h; have ht0 := ht; obtain rfl := ba_eq ht0; exact S.RSleft_sim a b c d
    · cases h
  · cases h
def S.RSright_0 (a b c d : Int) : Int := (bif S.rEmpty a b then (1) else (bif S.rEmpty c d then (1) else (bif a == b then (bif c == d then (bif S.rBright_1 a c != 0 then (1) else (S.rBright_0 a c)) else (S.rshr_0 a b c d)) else (S.rshr_0 a b c d))))
def S.RSright_1 (a b c d : Int) : Int := (bif S.rEmpty a b then (0) else (bif S.rEmpty c d then (0) else (bif a == b then (bif c == d then (bif S.rBright_1 a c != 0 then (0) else (S.rBright_0 a c)) else (S.rshr_1 a b c d)) else (S.rshr_1 a b c d))))
theorem S.RSright_r0 (a b c d : Int) : run (envC prog imA 300 {} S.o_RSleft) 16 [.str false ⟨#[62, 62]⟩, .agg [.int true .i64 a, .int true .i64 b], .agg [.int true .i64 c, .int true .i64 d]] [] [.br true] = some (True ∧ S.rEmpty a b = true, .agg [.int false .i64 1, .int false .i64 0], []) := by kernel_rfl
theorem S.RSright_r1 (a b c d : Int) : run (envC prog imA 300 {} S.o_RSleft) 16 [.str false ⟨#[62, 62]⟩, .agg [.int true .i64 a, .int true .i64 b], .agg [.int true .i64 c, .int true .i64 d]] [] [.br false, .br true] = some ((True ∧ S.rEmpty a b = false) ∧ S.rEmpty c d = true, .agg [.int false .i64 1, .int false .i64 0], []) := by kernel_rfl
theorem S.RSright_r2 (a b c d : Int) : run (envC prog imA 300 {} S.o_RSleft) 16 [.str false ⟨#[62, 62]⟩, .agg [.int true .i64 a, .int true .i64 b], .agg [.int true .i64 c, .int true .i64 d]] [] [.br false, .br false, .br true, .br true, .br true] = some (((((True ∧ S.rEmpty a b = false) ∧ S.rEmpty c d = false) ∧ (a == b) = true) ∧ (c == d) = true) ∧ (S.rBright_1 a c != 0) = true, .agg [.int false .i64 1, .int false .i64 0], []) := by kernel_rfl
theorem S.RSright_r3 (a b c d : Int) : run (envC prog imA 300 {} S.o_RSleft) 16 [.str false ⟨#[62, 62]⟩, .agg [.int true .i64 a, .int true .i64 b], .agg [.int true .i64 c, .int true .i64 d]] [] [.br false, .br false, .br false] = some (((True ∧ S.rEmpty a b = false) ∧ S.rEmpty c d = false) ∧ (a == b) = false, .agg [.int true .i64 (S.rshr_0 a b c d), .int true .i64 (S.rshr_1 a b c d)], []) := by kernel_rfl
theorem S.RSright_r4 (a b c d : Int) : run (envC prog imA 300 {} S.o_RSleft) 16 [.str false ⟨#[62, 62]⟩, .agg [.int true .i64 a, .int true .i64 b], .agg [.int true .i64 c, .int true .i64 d]] [] [.br false, .br false, .br true, .br false] = some ((((True ∧ S.rEmpty a b = false) ∧ S.rEmpty c d = false) ∧ (a == b) = true) ∧ (c == d) = false, .agg [.int true .i64 (S.rshr_0 a b c d), .int true .i64 (S.rshr_1 a b c d)], []) := by kernel_rfl
theorem S.RSright_r5 (a b c d : Int) : run (envC prog imA 300 {} S.o_RSleft) 16 [.str false ⟨#[62, 62]⟩, .agg [.int true .i64 a, .int true .i64 b], .agg [.int true .i64 c, .int true .i64 d]] [] [.br false, .br false, .br true, .br true, .br false] = some (((((True ∧ S.rEmpty a b = false) ∧ S.rEmpty c d = false) ∧ (a == b) = true) ∧ (c == d) = true) ∧ (S.rBright_1 a c != 0) = false, .agg [.int true .i64 (S.rBright_0 a c), .int true .i64 (S.rBright_0 a c)], []) := by kernel_rfl
theorem S.RSright_sim (a b c d : Int) : Sim prog 16 [.str true ⟨#[62, 62]⟩, .agg [.int true .i64 a, .int true .i64 b], .agg [.int true .i64 c, .int true .i64 d]] [] (.agg [.int true .i64 (S.RSright_0 a b c d), .int true .i64 (S.RSright_1 a b c d)]) [] := by
 refine Sim.args (args' := [.str false ⟨#[62, 62]⟩, .agg [.int true .i64 a, .int true .i64 b], .agg [.int true .i64 c, .int true .i64 d]]) ?_ (.cons (Says.str rfl) (.cons (Says.refl _) (.cons (Says.refl _) (.nil))))
 rcases Bool.eq_false_or_eq_true (S.rEmpty a b) with h0 | h0
 ·
  exact (sim_run (S.hE S.o_RSleft_ok) (S.RSright_r0 a b c d) ⟨trivial, h0⟩).says (Says.agg (.cons (Says.int (by simp only [S.RSright_0, h0, cond_true, cond_false])) (.cons (Says.int (by simp only [S.RSright_1, h0, cond_true, cond_false])) (.nil))))
 ·
  rcases Bool.eq_false_or_eq_true (S.rEmpty c d) with h1 | h1
  ·
   exact (sim_run (S.hE S.o_RSleft_ok) (S.RSright_r1 a b c d) ⟨⟨trivial, h0⟩, h1⟩).says (Says.agg (.cons (Says.int (by simp only [S.RSright_0, h1, h0, cond_true, cond_false])) (.cons (Says.int (by simp only [S.RSright_1, h1, h0, cond_true, cond_false])) (.nil))))
  ·
   rcases Bool.eq_false_or_eq_true (a == b) with h2 | h2
   ·
    rcases Bool.eq_false_or_eq_true (c == d) with h3 | h3
    ·
     rcases Bool.eq_false_or_eq_true (S.rBright_1 a c != 0) with h4 | h4
     ·
      exact (sim_run (S.hE S.o_RSleft_ok) (S.RSright_r2 a b c d) ⟨⟨⟨⟨⟨trivial, h0⟩, h1⟩, h2⟩, h3⟩, h4⟩).says (Says.agg (.cons (Says.int (by simp only [S.RSright_0, h4, h3, h2, h1, h0, cond_true, cond_false])) (.cons (Says.int (by simp only [S.RSright_1, h4, h3, h2, h1, h0, cond_true, cond_false])) (.nil))))
     ·
      exact (sim_run (S.hE S.o_RSleft_ok) (S.RSright_r5 a b c d) ⟨⟨⟨⟨⟨trivial, h0⟩, h1⟩, h2⟩, h3⟩, h4⟩).says (Says.agg (.cons (Says.int (by simp only [S.RSright_0, h4, h3, h2, h1, h0, cond_true, cond_false])) (.cons (Says.int (by simp only [S.RSright_1, h4, h3, h2, h1, h0, cond_true, cond_false])) (.nil))))
    ·
     exact (sim_run (S.hE S.o_RSleft_ok) (S.RSright_r4 a b c d) ⟨⟨⟨⟨trivial, h0⟩, h1⟩, h2⟩, h3⟩).says (Says.agg (.cons (Says.int (by simp only [S.RSright_0, h3, h2, h1, h0, cond_true, cond_false])) (.cons (Says.int (by simp only [S.RSright_1, h3, h2, h1, h0, cond_true, cond_false])) (.nil))))
   ·
    exact (sim_run (S.hE S.o_RSleft_ok) (S.RSright_r3 a b c d) ⟨⟨⟨trivial, h0⟩, h1⟩, h2⟩).says (Says.agg (.cons (Says.int (by simp only [S.RSright_0, h2, h1, h0, cond_true, cond_false])) (.cons (Says.int (by simp only [S.RSright_1, h2, h1, h0, cond_true, cond_false])) (.nil))))
def S.o_RSright : Orc := orcAdd 16 (fun | [.str true t0, .agg [.int true .i64 a, .int true .i64 b], .agg [.int true .i64 c, .int true .i64 d]] => (match t0.data.toList == [62, 62] with | true => some (.agg [.int true .i64 (S.RSright_0 a b c d), .int true .i64 (S.RSright_1 a b c d)]) | false => none) | _ => none) S.o_RSleft
theorem S.o_RSright_ok : OrcOk prog S.o_RSright := orcAdd_ok S.o_RSleft_ok fun a v h => by
  try dsimp only at h
  split at h
  · rename_i t0 a b c d
    split at h
    · rename_i ht; cases h; have ht0 := ht; obtain rfl := ba_eq ht0; exact S.RSright_sim a b c d
    · cases h
  · cases h
def S.RSadd_0 (a b c d : Int) : Int := (bif S.rEmpty a b then (1) else (bif S.rEmpty c d then (1) else (bif a == b then (bif c == d then (bif S.rBadd_1 a c != 0 then (1) else (S.rBadd_0 a c)) else (bif !S.wiadd a b c d then (-9223372036854775808) else (S.readd_0 a b c d))) else (bif !S.wiadd a b c d then (-9223372036854775808) else (S.readd_0 a b c d)))))
def S.RSadd_1 (a b c d : Int) : Int := (bif S.rEmpty a b then (0) else (bif S.rEmpty c d then (0) else (bif a == b then (bif c == d then (bif S.rBadd_1 a c != 0 then (0) else (S.rBadd_0 a c)) else (bif !S.wiadd a b c d then (9223372036854775807) else (S.readd_1 a b c d))) else (bif !S.wiadd a b c d then (9223372036854775807) else (S.readd_1 a b c d)))))
theorem S.RSadd_r0 (a b c d : Int) : run (envC prog imA 300 {} S.o_RSright) 16 [.str false ⟨#[43]⟩, .agg [.int true .i64 a, .int true .i64 b], .agg [.int true .i64 c, .int true .i64 d]] [] [.br true] = some (True ∧ S.rEmpty a b = true, .agg [.int false .i64 1, .int false .i64 0], []) := by kernel_rfl
theorem S.RSadd_r1 (a b c d : Int) : run (envC prog imA 300 {} S.o_RSright) 16 [.str false ⟨#[43]⟩, .agg [.int true .i64 a, .int true .i64 b], .agg [.int true .i64 c, .int true .i64 d]] [] [.br false, .br true] = some ((True ∧ S.rEmpty a b = false) ∧ S.rEmpty c d = true, .agg [.int false .i64 1, .int false .i64 0], []) := by kernel_rfl
theorem S.RSadd_r2 (a b c d : Int) : run (envC prog imA 300 {} S.o_RSright) 16 [.str false ⟨#[43]⟩, .agg [.int true .i64 a, .int true .i64 b], .agg [.int true .i64 c, .int true .i64 d]] [] [.br false, .br false, .br true, .br true, .br true] = some (((((True ∧ S.rEmpty a b = false) ∧ S.rEmpty c d = false) ∧ (a == b) = true) ∧ (c == d) = true) ∧ (S.rBadd_1 a c != 0) = true, .agg [.int false .i64 1, .int false .i64 0], []) := by kernel_rfl
theorem S.RSadd_r3 (a b c d : Int) : run (envC prog imA 300 {} S.o_RSright) 16 [.str false ⟨#[43]⟩, .agg [.int true .i64 a, .int true .i64 b], .agg [.int true .i64 c, .int true .i64 d]] [] [.br false, .br false, .br false, .br true] = some ((((True ∧ S.rEmpty a b = false) ∧ S.rEmpty c d = false) ∧ (a == b) = false) ∧ (!S.wiadd a b c d) = true, .agg [.int false .i64 (-9223372036854775808), .int false .i64 9223372036854775807], []) := by kernel_rfl
theorem S.RSadd_r4 (a b c d : Int) : run (envC prog imA 300 {} S.o_RSright) 16 [.str false ⟨#[43]⟩, .agg [.int true .i64 a, .int true .i64 b], .agg [.int true .i64 c, .int true .i64 d]] [] [.br false, .br false, .br false, .br false] = some ((((True ∧ S.rEmpty a b = false) ∧ S.rEmpty c d = false) ∧ (a == b) = false) ∧ (!S.wiadd a b c d) = false, .agg [.int true .i64 (S.readd_0 a b c d), .int true .i64 (S.readd_1 a b c d)], []) := by kernel_rfl
theorem S.RSadd_r5 (a b c d : Int) : run (envC prog imA 300 {} S.o_RSright) 16 [.str false ⟨#[43]⟩, .agg [.int true .i64 a, .int true .i64 b], .agg [.int true .i64 c, .int true .i64 d]] [] [.br false, .br false, .br true, .br false, .br true] = some (((((True ∧ S.rEmpty a b = false) ∧ S.rEmpty c d = false) ∧ (a == b) = true) ∧ (c == d) = false) ∧ (!S.wiadd a b c d) = true, .agg [.int false .i64 (-9223372036854775808), .int false .i64 9223372036854775807], []) := by kernel_rfl
theorem S.RSadd_r6 (a b c d : Int) : run (envC prog imA 300 {} S.o_RSright) 16 [.str false ⟨#[43]⟩, .agg [.int true .i64 a, .int true .i64 b], .agg [.int true .i64 c, .int true .i64 d]] [] [.br false, .br false, .br true, .br false, .br false] = some (((((True ∧ S.rEmpty a b = false) ∧ S.rEmpty c d = false) ∧ (a == b) = true) ∧ (c == d) = false) ∧ (!S.wiadd a b c d) = false, .agg [.int true .i64 (S.readd_0 a b c d), .int true .i64 (S.readd_1 a b c d)], []) := by kernel_rfl
theorem S.RSadd_r7 (a b c d : Int) : run (envC prog imA 300 {} S.o_RSright) 16 [.str false ⟨#[43]⟩, .agg [.int true .i64 a, .int true .i64 b], .agg [.int true .i64 c, .int true .i64 d]] [] [.br false, .br false, .br true, .br true, .br false] = some (((((True ∧ S.rEmpty a b = false) ∧ S.rEmpty c d = false) ∧ (a == b) = true) ∧ (c == d) = true) ∧ (S.rBadd_1 a c != 0) = false, .agg [.int true .i64 (S.rBadd_0 a c), .int true .i64 (S.rBadd_0 a c)], []) := by kernel_rfl
theorem S.RSadd_sim (a b c d : Int) : Sim prog 16 [.str true ⟨#[43]⟩, .agg [.int true .i64 a, .int true .i64 b], .agg [.int true .i64 c, .int true .i64 d]] [] (.agg [.int true .i64 (S.RSadd_0 a b c d), .int true .i64 (S.RSadd_1 a b c d)]) [] := by
 refine Sim.args (args' := [.str false ⟨#[43]⟩, .agg [.int true .i64 a, .int true .i64 b], .agg [.int true .i64 c, .int true .i64 d]]) ?_ (.cons (Says.str rfl) (.cons (Says.refl _) (.cons (Says.refl _) (.nil))))
 rcases Bool.eq_false_or_eq_true (S.rEmpty a b) with h0 | h0
 ·
  exact (sim_run (S.hE S.o_RSright_ok) (S.RSadd_r0 a b c d) ⟨trivial, h0⟩).says (Says.agg (.cons (Says.int (by simp only [S.RSadd_0, h0, cond_true, cond_false])) (.cons (Says.int (by simp only [S.RSadd_1, h0, cond_true, cond_false])) (.nil))))
 ·
  rcases Bool.eq_false_or_eq_true (S.rEmpty c d) with h1 | h1
  ·
   exact (sim_run (S.hE S.o_RSright_ok) (S.RSadd_r1 a b c d) ⟨⟨trivial, h0⟩, h1⟩).says (Says.agg (.cons (Says.int (by simp only [S.RSadd_0, h1, h0, cond_true, cond_false])) (.cons (Says.int (by simp only [S.RSadd_1, h1, h0, cond_true, cond_false])) (.nil))))
  ·
   rcases Bool.eq_false_or_eq_true (a == b) with h2 | h2
   ·
    rcases Bool.eq_false_or_eq_true (c == d) with h3 | h3
    ·
     rcases Bool.eq_false_or_eq_true (S.rBadd_1 a c != 0) with h4 | h4
     ·
      exact (sim_run (S.hE S.o_RSright_ok) (S.RSadd_r2 a b c d) ⟨⟨⟨⟨⟨trivial, h0⟩, h1⟩, h2⟩, h3⟩, h4⟩).says (Says.agg (.cons (Says.int (by simp only [S.RSadd_0, h4, h3, h2, h1, h0, cond_true, cond_false])) (.cons (Says.int (by simp only [S.RSadd_1, h4, h3, h2, h1, h0, cond_true, cond_false])) (.nil))))
     ·
      exact (sim_run (S.hE S.o_RSright_ok) (S.RSadd_r7 a b c d) ⟨⟨⟨⟨⟨trivial, h0⟩, h1⟩, h2⟩, h3⟩, h4⟩).says (Says.agg (.cons (Says.int (by simp only [S.RSadd_0, h4, h3, h2, h1, h0, cond_true, cond_false])) (.cons (Says.int (by simp only [S.RSadd_1, h4, h3, h2, h1, h0, cond_true, cond_false])) (.nil))))
    ·
     rcases Bool.eq_false_or_eq_true (!S.wiadd a b c d) with h4 | h4
     ·
      exact (sim_run (S.hE S.o_RSright_ok) (S.RSadd_r5 a b c d) ⟨⟨⟨⟨⟨trivial, h0⟩, h1⟩, h2⟩, h3⟩, h4⟩).says (Says.agg (.cons (Says.int (by simp only [S.RSadd_0, h4, h3, h2, h1, h0, cond_true, cond_false])) (.cons (Says.int (by simp only [S.RSadd_1, h4, h3, h2, h1, h0, cond_true, cond_false])) (.nil))))
     ·
      exact (sim_run (S.hE S.o_RSright_ok) (S.RSadd_r6 a b c d) ⟨⟨⟨⟨⟨trivial, h0⟩, h1⟩, h2⟩, h3⟩, h4⟩).says (Says.agg (.cons (Says.int (by simp only [S.RSadd_0, h4, h3, h2, h1, h0, cond_true, cond_false])) (.cons (Says.int (by simp only [S.RSadd_1, h4, h3, h2, h1, h0, cond_true, cond_false])) (.nil))))
   ·
    rcases Bool.eq_false_or_eq_true (!S.wiadd a b c d) with h3 | h3
    ·
     exact (sim_run (S.hE S.o_RSright_ok) (S.RSadd_r3 a b c d) ⟨⟨⟨⟨trivial, h0⟩, h1⟩, h2⟩, h3⟩).says (Says.agg (.cons (Says.int (by simp only [S.RSadd_0, h3, h2, h1, h0, cond_true, cond_false])) (.cons (Says.int (by simp only [S.RSadd_1, h3, h2, h1, h0, cond_true, cond_false])) (.nil))))
    ·
     exact (sim_run (S.hE S.o_RSright_ok) (S.RSadd_r4 a b c d) ⟨⟨⟨⟨trivial, h0⟩, h1⟩, h2⟩, h3⟩).says (Says.agg (.cons (Says.int (by simp only [S.RSadd_0, h3, h2, h1, h0, cond_true, cond_false])) (.cons (Says.int (by simp only [S.RSadd_1, h3, h2, h1, h0, cond_true, cond_false])) (.nil))))
def S.o_RSadd : Orc := orcAdd 16 (fun | [.str true t0, .agg [.int true .i64 a, .int true .i64 b], .agg [.int true .i64 c, .int true .i64 d]] => (match t0.data.toList == [43] with | true => some (.agg [.int true .i64 (S.RSadd_0 a b c d), .int true .i64 (S.RSadd_1 a b c d)]) | false => none) | _ => none) S.o_RSright
theorem S.o_RSadd_ok : OrcOk prog S.o_RSadd := orcAdd_ok S.o_RSright_ok fun a v h => by
  try dsimp only at h
  split at h
  · rename_i t0 a b c d
    split at h
    · rename_i ht; cases h; have ht0 := ht; obtain rfl := ba_eq ht0; exact S.RSadd_sim a b c d
    · cases h
  · cases h
def S.RSsub_0 (a b c d : Int) : Int := (bif S.rEmpty a b then (1) else (bif S.rEmpty c d then (1) else (bif a == b then (bif c == d then (bif S.rBsub_1 a c != 0 then (1) else (S.rBsub_0 a c)) else (bif !S.wisub a b c d then (-9223372036854775808) else (S.resub_0 a b c d))) else (bif !S.wisub a b c d then (-9223372036854775808) else (S.resub_0 a b c d)))))
def S.RSsub_1 (a b c d : Int) : Int := (bif S.rEmpty a b then (0) else (bif S.rEmpty c d then (0) else (bif a == b then (bif c == d then (bif S.rBsub_1 a c != 0 then (0) else (S.rBsub_0 a c)) else (bif !S.wisub a b c d then (9223372036854775807) else (S.resub_1 a b c d))) else (bif !S.wisub a b c d then (9223372036854775807) else (S.resub_1 a b c d)))))
theorem S.RSsub_r0 (a b c d : Int) : run (envC prog imA 300 {} S.o_RSadd) 16 [.str false ⟨#[45]⟩, .agg [.int true .i64 a, .int true .i64 b], .agg [.int true .i64 c, .int true .i64 d]] [] [.br true] = some (True ∧ S.rEmpty a b = true, .agg [.int false .i64 1, .int false .i64 0], []) := by kernel_rfl
theorem S.RSsub_r1 (a b c d : Int) : run (envC prog imA 300 {} S.o_RSadd) 16 [.str false ⟨#[45]⟩, .agg [.int true .i64 a, .int true .i64 b], .agg [.int true .i64 c, .int true .i64 d]] [] [.br false, .br true] = some ((True ∧ S.rEmpty a b = false) ∧ S.rEmpty c d = true, .agg [.int false .i64 1, .int false .i64 0], []) := by kernel_rfl
theorem S.RSsub_r2 (a b c d : Int) : run (envC prog imA 300 {} S.o_RSadd) 16 [.str false ⟨#[45]⟩, .agg [.int true .i64 a, .int true .i64 b], .agg [.int true .i64 c, .int true .i64 d]] [] [.br false, .br false, .br true, .br true, .br true] = some (((((True ∧ S.rEmpty a b = false) ∧ S.rEmpty c d = false) ∧ (a == b) = true) ∧ (c == d) = true) ∧ (S.rBsub_1 a c != 0) = true, .agg [.int false .i64 1, .int false .i64 0], []) := by kernel_rfl
theorem S.RSsub_r3 (a b c d : Int) : run (envC prog imA 300 {} S.o_RSadd) 16 [.str false ⟨#[45]⟩, .agg [.int true .i64 a, .int true .i64 b], .agg [.int true .i64 c, .int true .i64 d]] [] [.br false, .br false, .br false, .br true] = some ((((True ∧ S.rEmpty a b = false) ∧ S.rEmpty c d = false) ∧ (a == b) = false) ∧ (!S.wisub a b c d) = true, .agg [.int false .i64 (-9223372036854775808), .int false .i64 9223372036854775807], []) := by kernel_rfl
theorem S.RSsub_r4 (a b c d : Int) : run (envC prog imA 300 {} S.o_RSadd) 16 [.str false ⟨#[45]⟩, .agg [.int true .i64 a, .int true .i64 b], .agg [.int true .i64 c, .int true .i64 d]] [] [.br false, .br false, .br false, .br false] = some ((((True ∧ S.rEmpty a b = false) ∧ S.rEmpty c d = false) ∧ (a == b) = false) ∧ (!S.wisub a b c d) = false, .agg [.int true .i64 (S.resub_0 a b c d), .int true .i64 (S.resub_1 a b c d)], []) := by kernel_rfl
theorem S.RSsub_r5 (a b c d : Int) : run (envC prog imA 300 {} S.o_RSadd) 16 [.str false ⟨#[45]⟩, .agg [.int true .i64 a, .int true .i64 b], .agg [.int true .i64 c, .int true .i64 d]] [] [.br false, .br false, .br true, .br false, .br true] = some (((((True ∧ S.rEmpty a b = false) ∧ S.rEmpty c d = false) ∧ (a == b) = true) ∧ (c == d) = false) ∧ (!S.wisub a b c d) = true, .agg [.int false .i64 (-9223372036854775808), .int false .i64 9223372036854775807], []) := by kernel_rfl
theorem S.RSsub_r6 (a b c d : Int) : run (envC prog imA 300 {} S.o_RSadd) 16 [.str false ⟨#[45]⟩, .agg [.int true .i64 a, .int true .i64 b], .agg [.int true .i64 c, .int true .i64 d]] [] [.br false, .br false, .br true, .br false, .br false] = some (((((True ∧ S.rEmpty a b = false) ∧ S.rEmpty c d = false) ∧ (a == b) = true) ∧ (c == d) = false) ∧ (!S.wisub a b c d) = false, .agg [.int true .i64 (S.resub_0 a b c d), .int true .i64 (S.resub_1 a b c d)], []) := by kernel_rfl
theorem S.RSsub_r7 (a b c d : Int) : run (envC prog imA 300 {} S.o_RSadd) 16 [.str false ⟨#[45]⟩, .agg [.int true .i64 a, .int true .i64 b], .agg [.int true .i64 c, .int true .i64 d]] [] [.br false, .br false, .br true, .br true, .br false] = some (((((True ∧ S.rEmpty a b = false) ∧ S.rEmpty c d = false) ∧ (a == b) = true) ∧ (c == d) = true) ∧ (S.rBsub_1 a c != 0) = false, .agg [.int true .i64 (S.rBsub_0 a c), .int true .i64 (S.rBsub_0 a c)], []) := by kernel_rfl
theorem S.RSsub_sim (a b c d : Int) : Sim prog 16 [.str true ⟨#[45]⟩, .agg [.int true .i64 a, .int true .i64 b], .agg [.int true .i64 c, .int true .i64 d]] [] (.agg [.int true .i64 (S.RSsub_0 a b c d), .int true .i64 (S.RSsub_1 a b c d)]) [] := by
 refine Sim.args (args' := [.str false ⟨#[45]⟩, .agg [.int true .i64 a, .int true .i64 b], .agg [.int true .i64 c, .int true .i64 d]]) ?_ (.cons (Says.str rfl) (.cons (Says.refl _) (.cons (Says.refl _) (.nil))))
 rcases Bool.eq_false_or_eq_true (S.rEmpty a b) with h0 | h0
 ·
  exact (sim_run (S.hE S.o_RSadd_ok) (S.RSsub_r0 a b c d) ⟨trivial, h0⟩).says (Says.agg (.cons (Says.int (by simp only [S.RSsub_0, h0, cond_true, cond_false])) (.cons (Says.int (by simp only [S.RSsub_1, h0, cond_true, cond_false])) (.nil))))
 ·
  rcases Bool.eq_false_or_eq_true (S.rEmpty c d) with h1 | h1
  ·
   exact (sim_run (S.hE S.o_RSadd_ok) (S.RSsub_r1 a b c d) ⟨⟨trivial, h0⟩, h1⟩).says (Says.agg (.cons (Says.int (by simp only [S.RSsub_0, h1, h0, cond_true, cond_false])) (.cons (Says.int (by simp only [S.RSsub_1, h1, h0, cond_true, cond_false])) (.nil))))
  ·
   rcases Bool.eq_false_or_eq_true (a == b) with h2 | h2
   ·
    rcases Bool.eq_false_or_eq_true (c == d) with h3 | h3
    ·
     rcases Bool.eq_false_or_eq_true (S.rBsub_1 a c != 0) with h4 | h4
     ·
      exact (sim_run (S.hE S.o_RSadd_ok) (S.RSsub_r2 a b c d) ⟨⟨⟨⟨⟨trivial, h0⟩, h1⟩, h2⟩, h3⟩, h4⟩).says (Says.agg (.cons (Says.int (by simp only [S.RSsub_0, h4, h3, h2, h1, h0, cond_true, cond_false])) (.cons (Says.int (by simp only [S.RSsub_1, h4, h3, h2, h1, h0, cond_true, cond_false])) (.nil))))
     ·
      exact (sim_run (S.hE S.o_RSadd_ok) (S.RSsub_r7 a b c d) ⟨⟨⟨⟨⟨trivial, h0⟩, h1⟩, h2⟩, h3⟩, h4⟩).says (Says.agg (.cons (Says.int (by simp only [S.RSsub_0, h4, h3, h2, h1, h0, cond_true, cond_false])) (.cons (Says.int (by simp only [S.RSsub_1, h4, h3, h2, h1, h0, cond_true, cond_false])) (.nil))))
    ·
     rcases Bool.eq_false_or_eq_true (!S.wisub a b c d) with h4 | h4
     ·
      exact (sim_run (S.hE S.o_RSadd_ok) (S.RSsub_r5 a b c d) ⟨⟨⟨⟨⟨trivial, h0⟩, h1⟩, h2⟩, h3⟩, h4⟩).says (Says.agg (.cons (Says.int (by simp only [S.RSsub_0, h4, h3, h2, h1, h0, cond_true, cond_false])) (.cons (Says.int (by simp only [S.RSsub_1, h4, h3, h2, h1, h0, cond_true, cond_false])) (.nil))))
     ·
      exact (sim_run (S.hE S.o_RSadd_ok) (S.RSsub_r6 a b c d) ⟨⟨⟨⟨⟨trivial, h0⟩, h1⟩, h2⟩, h3⟩, h4⟩).says (Says.agg (.cons (Says.int (by simp only [S.RSsub_0, h4, h3, h2, h1, h0, cond_true, cond_false])) (.cons (Says.int (by simp only [S.RSsub_1, h4, h3, h2, h1, h0, cond_true, cond_false])) (.nil))))
   ·
    rcases Bool.eq_false_or_eq_true (!S.wisub a b c d) with h3 | h3
    ·
     exact (sim_run (S.hE S.o_RSadd_ok) (S.RSsub_r3 a b c d) ⟨⟨⟨⟨trivial, h0⟩, h1⟩, h2⟩, h3⟩).says (Says.agg (.cons (Says.int (by simp only [S.RSsub_0, h3, h2, h1, h0, cond_true, cond_false])) (.cons (Says.int (by simp only [S.RSsub_1, h3, h2, h1, h0, cond_true, cond_false])) (.nil))))
    ·
     exact (sim_run (S.hE S.o_RSadd_ok) (S.RSsub_r4 a b c d) ⟨⟨⟨⟨trivial, h0⟩, h1⟩, h2⟩, h3⟩).says (Says.agg (.cons (Says.int (by simp only [S.RSsub_0, h3, h2, h1, h0, cond_true, cond_false])) (.cons (Says.int (by simp only [S.RSsub_1, h3, h2, h1, h0, cond_true, cond_false])) (.nil))))
def S.o_RSsub : Orc := orcAdd 16 (fun | [.str true t0, .agg [.int true .i64 a, .int true .i64 b], .agg [.int true .i64 c, .int true .i64 d]] => (match t0.data.toList == [45] with | true => some (.agg [.int true .i64 (S.RSsub_0 a b c d), .int true .i64 (S.RSsub_1 a b c d)]) | false => none) | _ => none) S.o_RSadd
theorem S.o_RSsub_ok : OrcOk prog S.o_RSsub := orcAdd_ok S.o_RSadd_ok fun a v h => by
  try dsimp only at h
  split at h
  · rename_i t0 a b c d
    split at h
    · rename_i ht; cases h; have ht0 := ht; obtain rfl := ba_eq ht0; exact S.RSsub_sim a b c d
    · cases h
  · cases h
def S.RSmul_0 (a b c d : Int) : Int := (bif S.rEmpty a b then (1) else (bif S.rEmpty c d then (1) else (bif a == b then (bif c == d then (bif S.rBmul_1 a c != 0 then (1) else (S.rBmul_0 a c)) else (bif !S.wimul a b c d then (-9223372036854775808) else (S.remul_0 a b c d))) else (bif !S.wimul a b c d then (-9223372036854775808) else (S.remul_0 a b c d)))))
def S.RSmul_1 (a b c d : Int) : Int := (bif S.rEmpty a b then (0) else (bif S.rEmpty c d then (0) else (bif a == b then (bif c == d then (bif S.rBmul_1 a c != 0 then (0) else (S.rBmul_0 a c)) else (bif !S.wimul a b c d then (9223372036854775807) else (S.remul_1 a b c d))) else (bif !S.wimul a b c d then (9223372036854775807) else (S.remul_1 a b c d)))))
theorem S.RSmul_r0 (a b c d : Int) : run (envC prog imA 300 {} S.o_RSsub) 16 [.str false ⟨#[42]⟩, .agg [.int true .i64 a, .int true .i64 b], .agg [.int true .i64 c, .int true .i64 d]] [] [.br true] = some (True ∧ S.rEmpty a b = true, .agg [.int false .i64 1, .int false .i64 0], []) := by kernel_rfl
theorem S.RSmul_r1 (a b c d : Int) : run (envC prog imA 300 {} S.o_RSsub) 16 [.str false ⟨#[42]⟩, .agg [.int true .i64 a, .int true .i64 b], .agg [.int true .i64 c, .int true .i64 d]] [] [.br false, .br true] = some ((True ∧ S.rEmpty a b = false) ∧ S.rEmpty c d = true, .agg [.int false .i64 1, .int false .i64 0], []) := by kernel_rfl
theorem S.RSmul_r2 (a b c d : Int) : run (envC prog imA 300 {} S.o_RSsub) 16 [.str false ⟨#[42]⟩, .agg [.int true .i64 a, .int true .i64 b], .agg [.int true .i64 c, .int true .i64 d]] [] [.br false, .br false, .br true, .br true, .br true] = some (((((True ∧ S.rEmpty a b = false) ∧ S.rEmpty c d = false) ∧ (a == b) = true) ∧ (c == d) = true) ∧ (S.rBmul_1 a c != 0) = true, .agg [.int false .i64 1, .int false .i64 0], []) := by kernel_rfl
theorem S.RSmul_r3 (a b c d : Int) : run (envC prog imA 300 {} S.o_RSsub) 16 [.str false ⟨#[42]⟩, .agg [.int true .i64 a, .int true .i64 b], .agg [.int true .i64 c, .int true .i64 d]] [] [.br false, .br false, .br false, .br true] = some ((((True ∧ S.rEmpty a b = false) ∧ S.rEmpty c d = false) ∧ (a == b) = false) ∧ (!S.wimul a b c d) = true, .agg [.int false .i64 (-9223372036854775808), .int false .i64 9223372036854775807], []) := by kernel_rfl
theorem S.RSmul_r4 (a b c d : Int) : run (envC prog imA 300 {} S.o_RSsub) 16 [.str false ⟨#[42]⟩, .agg [.int true .i64 a, .int true .i64 b], .agg [.int true .i64 c, .int true .i64 d]] [] [.br false, .br false, .br false, .br false] = some ((((True ∧ S.rEmpty a b = false) ∧ S.rEmpty c d = false) ∧ (a == b) = false) ∧ (!S.wimul a b c d) = false, .agg [.int true .i64 (S.remul_0 a b c d), .int true .i64 (S.remul_1 a b c d)], []) := by kernel_rfl
theorem S.RSmul_r5 (a b c d : Int) : run (envC prog imA 300 {} S.o_RSsub) 16 [.str false ⟨#[42]⟩, .agg [.int true .i64 a, .int true .i64 b], .agg [.int true .i64 c, .int true .i64 d]] [] [.br false, .br false, .br true, .br false, .br true] = some (((((True ∧ S.rEmpty a b = false) ∧ S.rEmpty c d = false) ∧ (a == b) = true) ∧ (c == d) = false) ∧ (!S.wimul a b c d) = true, .agg [.int false .i64 (-9223372036854775808), .int false .i64 9223372036854775807], []) := by kernel_rfl
theorem S.RSmul_r6 (a b c d : Int) : run (envC prog imA 300 {} S.o_RSsub) 16 [.str false ⟨#[42]⟩, .agg [.int true .i64 a, .int true .i64 b], .agg [.int true .i64 c, .int true .i64 d]] [] [.br false, .br false, .br true, .br false, .br false] = some (((((True ∧ S.rEmpty a b = false) ∧ S.rEmpty c d = false) ∧ (a == b) = true) ∧ (c == d) = false) ∧ (!S.wimul a b c d) = false, .agg [.int true .i64 (S.remul_0 a b c d), .int true .i64 (S.remul_1 a b c d)], []) := by kernel_rfl
theorem S.RSmul_r7 (a b c d : Int) : run (envC prog imA 300 {} S.o_RSsub) 16 [.str false ⟨#[42]⟩, .agg [.int true .i64 a, .int true .i64 b], .agg [.int true .i64 c, .int true .i64 d]] [] [.br false, .br false, .br true, .br true, .br false] = some (((((True ∧ S.rEmpty a b = false) ∧ S.rEmpty c d = false) ∧ (a == b) = true) ∧ (c == d) = true) ∧ (S.rBmul_1 a c != 0) = false, .agg [.int true .i64 (S.rBmul_0 a c), .int true .i64 (S.rBmul_0 a c)], []) := by kernel_rfl
theorem S.RSmul_sim (a b c d : Int) : Sim prog 16 [.str true ⟨#[42]⟩, .agg [.int true .i64 a, .int true .i64 b], .agg [.int true .i64 c, .int true .i64 d]] [] (.agg [.int true .i64 (S.RSmul_0 a b c d), .int true .i64 (S.RSmul_1 a b c d)]) [] := by
 refine Sim.args (args' := [.str false ⟨#[42]⟩, .agg [.int true .i64 a, .int true .i64 b], .agg [.int true .i64 c, .int true .i64 d]]) ?_ (.cons (Says.str rfl) (.cons (Says.refl _) (.cons (Says.refl _) (.nil))))
 rcases Bool.eq_false_or_eq_true (S.rEmpty a b) with h0 | h0
 ·
  exact (sim_run (S.hE S.o_RSsub_ok) (S.RSmul_r0 a b c d) ⟨trivial, h0⟩).says (Says.agg (.cons (Says.int (by simp only [S.RSmul_0, h0, cond_true, cond_false])) (.cons (Says.int (by simp only [S.RSmul_1, h0, cond_true, cond_false])) (.nil))))
 ·
  rcases Bool.eq_false_or_eq_true (S.rEmpty c d) with h1 | h1
  ·
   exact (sim_run (S.hE S.o_RSsub_ok) (S.RSmul_r1 a b c d) ⟨⟨trivial, h0⟩, h1⟩).says (Says.agg (.cons (Says.int (by simp only [S.RSmul_0, h1, h0, cond_true, cond_false])) (.cons (Says.int (by simp only [S.RSmul_1, h1, h0, cond_true, cond_false])) (.nil))))
  ·
   rcases Bool.eq_false_or_eq_true (a == b) with h2 | h2
   ·
    rcases Bool.eq_false_or_eq_true (c == d) with h3 | h3
    ·
     rcases Bool.eq_false_or_eq_true (S.rBmul_1 a c != 0) with h4 | h4
     ·
      exact (sim_run (S.hE S.o_RSsub_ok) (S.RSmul_r2 a b c d) ⟨⟨⟨⟨⟨trivial, h0⟩, h1⟩, h2⟩, h3⟩, h4⟩).says (Says.agg (.cons (Says.int (by simp only [S.RSmul_0, h4, h3, h2, h1, h0, cond_true, cond_false])) (.cons (Says.int (by simp only [S.RSmul_1, h4, h3, h2, h1, h0, cond_true, cond_false])) (.nil))))
     ·
      exact (sim_run (S.hE S.o_RSsub_ok) (S.RSmul_r7 a b c d) ⟨⟨⟨⟨⟨trivial, h0⟩, h1⟩, h2⟩, h3⟩, h4⟩).says (Says.agg (.cons (Says.int (by simp only [S.RSmul_0, h4, h3, h2, h1, h0, cond_true, cond_false])) (.cons (Says.int (by simp only [S.RSmul_1, h4, h3, h2, h1, h0, cond_true, cond_false])) (.nil))))
    ·
     rcases Bool.eq_false_or_eq_true (!S.wimul a b c d) with h4 | h4
     ·
      exact (sim_run (S.hE S.o_RSsub_ok) (S.RSmul_r5 a b c d) ⟨⟨⟨⟨⟨trivial, h0⟩, h1⟩, h2⟩, h3⟩, h4⟩).says (Says.agg (.cons (Says.int (by simp only [S.RSmul_0, h4, h3, h2, h1, h0, cond_true, cond_false])) (.cons (Says.int (by simp only [S.RSmul_1, h4, h3, h2, h1, h0, cond_true, cond_false])) (.nil))))
     ·
      exact (sim_run (S.hE S.o_RSsub_ok) (S.RSmul_r6 a b c d) ⟨⟨⟨⟨⟨trivial, h0⟩, h1⟩, h2⟩, h3⟩, h4⟩).says (Says.agg (.cons (Says.int (by simp only [S.RSmul_0, h4, h3, h2, h1, h0, cond_true, cond_false])) (.cons (Says.int (by simp only [S.RSmul_1, h4, h3, h2, h1, h0, cond_true, cond_false])) (.nil))))
   ·
    rcases Bool.eq_false_or_eq_true (!S.wimul a b c d) with h3 | h3
    ·
     exact (sim_run (S.hE S.o_RSsub_ok) (S.RSmul_r3 a b c d) ⟨⟨⟨⟨trivial, h0⟩, h1⟩, h2⟩, h3⟩).says (Says.agg (.cons (Says.int (by simp only [S.RSmul_0, h3, h2, h1, h0, cond_true, cond_false])) (.cons (Says.int (by simp only [S.RSmul_1, h3, h2, h1, h0, cond_true, cond_false])) (.nil))))
    ·
     exact (sim_run (S.hE S.o_RSsub_ok) (S.RSmul_r4 a b c d) ⟨⟨⟨⟨trivial, h0⟩, h1⟩, h2⟩, h3⟩).says (Says.agg (.cons (Says.int (by simp only [S.RSmul_0, h3, h2, h1, h0, cond_true, cond_false])) (.cons (Says.int (by simp only [S.RSmul_1, h3, h2, h1, h0, cond_true, cond_false])) (.nil))))
def S.o_RSmul : Orc := orcAdd 16 (fun | [.str true t0, .agg [.int true .i64 a, .int true .i64 b], .agg [.int true .i64 c, .int true .i64 d]] => (match t0.data.toList == [42] with | true => some (.agg [.int true .i64 (S.RSmul_0 a b c d), .int true .i64 (S.RSmul_1 a b c d)]) | false => none) | _ => none) S.o_RSsub
theorem S.o_RSmul_ok : OrcOk prog S.o_RSmul := orcAdd_ok S.o_RSsub_ok fun a v h => by
  try dsimp only at h
  split at h
  · rename_i t0 a b c d
    split at h
    · rename_i ht; cases h; have ht0 := ht; obtain rfl := ba_eq ht0; exact S.RSmul_sim a b c d
    · cases h
  · cases h
def S.RSquo_0 (a b c d : Int) : Int := (bif S.rEmpty a b then (1) else (bif S.rEmpty c d then (1) else (bif a == b then (bif c == d then (bif S.rBquo_1 a c != 0 then (1) else (S.rBquo_0 a c)) else (S.rJoin_0 (S.rquot_0 a b (S.rMeet_0 c d (-9223372036854775808) (-1)) (S.rMeet_1 c d (-9223372036854775808) (-1))) (S.rquot_1 a b (S.rMeet_0 c d (-9223372036854775808) (-1)) (S.rMeet_1 c d (-9223372036854775808) (-1))) (S.rquot_0 a b (S.rMeet_0 c d 1 9223372036854775807) (S.rMeet_1 c d 1 9223372036854775807)) (S.rquot_1 a b (S.rMeet_0 c d 1 9223372036854775807) (S.rMeet_1 c d 1 9223372036854775807)))) else (S.rJoin_0 (S.rquot_0 a b (S.rMeet_0 c d (-9223372036854775808) (-1)) (S.rMeet_1 c d (-9223372036854775808) (-1))) (S.rquot_1 a b (S.rMeet_0 c d (-9223372036854775808) (-1)) (S.rMeet_1 c d (-9223372036854775808) (-1))) (S.rquot_0 a b (S.rMeet_0 c d 1 9223372036854775807) (S.rMeet_1 c d 1 9223372036854775807)) (S.rquot_1 a b (S.rMeet_0 c d 1 9223372036854775807) (S.rMeet_1 c d 1 9223372036854775807))))))
def S.RSquo_1 (a b c d : Int) : Int := (bif S.rEmpty a b then (0) else (bif S.rEmpty c d then (0) else (bif a == b then (bif c == d then (bif S.rBquo_1 a c != 0 then (0) else (S.rBquo_0 a c)) else (S.rJoin_1 (S.rquot_0 a b (S.rMeet_0 c d (-9223372036854775808) (-1)) (S.rMeet_1 c d (-9223372036854775808) (-1))) (S.rquot_1 a b (S.rMeet_0 c d (-9223372036854775808) (-1)) (S.rMeet_1 c d (-9223372036854775808) (-1))) (S.rquot_0 a b (S.rMeet_0 c d 1 9223372036854775807) (S.rMeet_1 c d 1 9223372036854775807)) (S.rquot_1 a b (S.rMeet_0 c d 1 9223372036854775807) (S.rMeet_1 c d 1 9223372036854775807)))) else (S.rJoin_1 (S.rquot_0 a b (S.rMeet_0 c d (-9223372036854775808) (-1)) (S.rMeet_1 c d (-9223372036854775808) (-1))) (S.rquot_1 a b (S.rMeet_0 c d (-9223372036854775808) (-1)) (S.rMeet_1 c d (-9223372036854775808) (-1))) (S.rquot_0 a b (S.rMeet_0 c d 1 9223372036854775807) (S.rMeet_1 c d 1 9223372036854775807)) (S.rquot_1 a b (S.rMeet_0 c d 1 9223372036854775807) (S.rMeet_1 c d 1 9223372036854775807))))))
theorem S.RSquo_r0 (a b c d : Int) : run (envC prog imA 300 {} S.o_RSmul) 16 [.str false ⟨#[47]⟩, .agg [.int true .i64 a, .int true .i64 b], .agg [.int true .i64 c, .int true .i64 d]] [] [.br true] = some (True ∧ S.rEmpty a b = true, .agg [.int false .i64 1, .int false .i64 0], []) := by kernel_rfl
theorem S.RSquo_r1 (a b c d : Int) : run (envC prog imA 300 {} S.o_RSmul) 16 [.str false ⟨#[47]⟩, .agg [.int true .i64 a, .int true .i64 b], .agg [.int true .i64 c, .int true .i64 d]] [] [.br false, .br true] = some ((True ∧ S.rEmpty a b = false) ∧ S.rEmpty c d = true, .agg [.int false .i64 1, .int false .i64 0], []) := by kernel_rfl
theorem S.RSquo_r2 (a b c d : Int) : run (envC prog imA 300 {} S.o_RSmul) 16 [.str false ⟨#[47]⟩, .agg [.int true .i64 a, .int true .i64 b], .agg [.int true .i64 c, .int true .i64 d]] [] [.br false, .br false, .br true, .br true, .br true] = some (((((True ∧ S.rEmpty a b = false) ∧ S.rEmpty c d = false) ∧ (a == b) = true) ∧ (c == d) = true) ∧ (S.rBquo_1 a c != 0) = true, .agg [.int false .i64 1, .int false .i64 0], []) := by kernel_rfl
theorem S.RSquo_r3 (a b c d : Int) : run (envC prog imA 300 {} S.o_RSmul) 16 [.str false ⟨#[47]⟩, .agg [.int true .i64 a, .int true .i64 b], .agg [.int true .i64 c, .int true .i64 d]] [] [.br false, .br false, .br false] = some (((True ∧ S.rEmpty a b = false) ∧ S.rEmpty c d = false) ∧ (a == b) = false, .agg [.int true .i64 (S.rJoin_0 (S.rquot_0 a b (S.rMeet_0 c d (-9223372036854775808) (-1)) (S.rMeet_1 c d (-9223372036854775808) (-1))) (S.rquot_1 a b (S.rMeet_0 c d (-9223372036854775808) (-1)) (S.rMeet_1 c d (-9223372036854775808) (-1))) (S.rquot_0 a b (S.rMeet_0 c d 1 9223372036854775807) (S.rMeet_1 c d 1 9223372036854775807)) (S.rquot_1 a b (S.rMeet_0 c d 1 9223372036854775807) (S.rMeet_1 c d 1 9223372036854775807))), .int true .i64 (S.rJoin_1 (S.rquot_0 a b (S.rMeet_0 c d (-9223372036854775808) (-1)) (S.rMeet_1 c d (-9223372036854775808) (-1))) (S.rquot_1 a b (S.rMeet_0 c d (-9223372036854775808) (-1)) (S.rMeet_1 c d (-9223372036854775808) (-1))) (S.rquot_0 a b (S.rMeet_0 c d 1 9223372036854775807) (S.rMeet_1 c d 1 9223372036854775807)) (S.rquot_1 a b (S.rMeet_0 c d 1 9223372036854775807) (S.rMeet_1 c d 1 9223372036854775807)))], []) := by kernel_rfl
theorem S.RSquo_r4 (a b c d : Int) : run (envC prog imA 300 {} S.o_RSmul) 16 [.str false ⟨#[47]⟩, .agg [.int true .i64 a, .int true .i64 b], .agg [.int true .i64 c, .int true .i64 d]] [] [.br false, .br false, .br true, .br false] = some ((((True ∧ S.rEmpty a b = false) ∧ S.rEmpty c d = false) ∧ (a == b) = true) ∧ (c == d) = false, .agg [.int true .i64 (S.rJoin_0 (S.rquot_0 a b (S.rMeet_0 c d (-9223372036854775808) (-1)) (S.rMeet_1 c d (-9223372036854775808) (-1))) (S.rquot_1 a b (S.rMeet_0 c d (-9223372036854775808) (-1)) (S.rMeet_1 c d (-9223372036854775808) (-1))) (S.rquot_0 a b (S.rMeet_0 c d 1 9223372036854775807) (S.rMeet_1 c d 1 9223372036854775807)) (S.rquot_1 a b (S.rMeet_0 c d 1 9223372036854775807) (S.rMeet_1 c d 1 9223372036854775807))), .int true .i64 (S.rJoin_1 (S.rquot_0 a b (S.rMeet_0 c d (-9223372036854775808) (-1)) (S.rMeet_1 c d (-9223372036854775808) (-1))) (S.rquot_1 a b (S.rMeet_0 c d (-9223372036854775808) (-1)) (S.rMeet_1 c d (-9223372036854775808) (-1))) (S.rquot_0 a b (S.rMeet_0 c d 1 9223372036854775807) (S.rMeet_1 c d 1 9223372036854775807)) (S.rquot_1 a b (S.rMeet_0 c d 1 9223372036854775807) (S.rMeet_1 c d 1 9223372036854775807)))], []) := by kernel_rfl
theorem S.RSquo_r5 (a b c d : Int) : run (envC prog imA 300 {} S.o_RSmul) 16 [.str false ⟨#[47]⟩, .agg [.int true .i64 a, .int true .i64 b], .agg [.int true .i64 c, .int true .i64 d]] [] [.br false, .br false, .br true, .br true, .br false] = some (((((True ∧ S.rEmpty a b = false) ∧ S.rEmpty c d = false) ∧ (a == b) = true) ∧ (c == d) = true) ∧ (S.rBquo_1 a c != 0) = false, .agg [.int true .i64 (S.rBquo_0 a c), .int true .i64 (S.rBquo_0 a c)], []) := by kernel_rfl
theorem S.RSquo_sim (a b c d : Int) : Sim prog 16 [.str true ⟨#[47]⟩, .agg [.int true .i64 a, .int true .i64 b], .agg [.int true .i64 c, .int true .i64 d]] [] (.agg [.int true .i64 (S.RSquo_0 a b c d), .int true .i64 (S.RSquo_1 a b c d)]) [] := by
 refine Sim.args (args' := [.str false ⟨#[47]⟩, .agg [.int true .i64 a, .int true .i64 b], .agg [.int true .i64 c, .int true .i64 d]]) ?_ (.cons (Says.str rfl) (.cons (Says.refl _) (.cons (Says.refl _) (.nil))))
 rcases Bool.eq_false_or_eq_true (S.rEmpty a b) with h0 | h0
 ·
  exact (sim_run (S.hE S.o_RSmul_ok) (S.RSquo_r0 a b c d) ⟨trivial, h0⟩).says (Says.agg (.cons (Says.int (by simp only [S.RSquo_0, h0, cond_true, cond_false])) (.cons (Says.int (by simp only [S.RSquo_1, h0, cond_true, cond_false])) (.nil))))
 ·
  rcases Bool.eq_false_or_eq_true (S.rEmpty c d) with h1 | h1
  ·
   exact (sim_run (S.hE S.o_RSmul_ok) (S.RSquo_r1 a b c d) ⟨⟨trivial, h0⟩, h1⟩).says (Says.agg (.cons (Says.int (by simp only [S.RSquo_0, h1, h0, cond_true, cond_false])) (.cons (Says.int (by simp only [S.RSquo_1, h1, h0, cond_true, cond_false])) (.nil))))
  ·
   rcases Bool.eq_false_or_eq_true (a == b) with h2 | h2
   ·
    rcases Bool.eq_false_or_eq_true (c == d) with h3 | h3
    ·
     rcases Bool.eq_false_or_eq_true (S.rBquo_1 a c != 0) with h4 | h4
     ·
      exact (sim_run (S.hE S.o_RSmul_ok) (S.RSquo_r2 a b c d) ⟨⟨⟨⟨⟨trivial, h0⟩, h1⟩, h2⟩, h3⟩, h4⟩).says (Says.agg (.cons (Says.int (by simp only [S.RSquo_0, h4, h3, h2, h1, h0, cond_true, cond_false])) (.cons (Says.int (by simp only [S.RSquo_1, h4, h3, h2, h1, h0, cond_true, cond_false])) (.nil))))
     ·
      exact (sim_run (S.hE S.o_RSmul_ok) (S.RSquo_r5 a b c d) ⟨⟨⟨⟨⟨trivial, h0⟩, h1⟩, h2⟩, h3⟩, h4⟩).says (Says.agg (.cons (Says.int (by simp only [S.RSquo_0, h4, h3, h2, h1, h0, cond_true, cond_false])) (.cons (Says.int (by simp only [S.RSquo_1, h4, h3, h2, h1, h0, cond_true, cond_false])) (.nil))))
    ·
     exact (sim_run (S.hE S.o_RSmul_ok) (S.RSquo_r4 a b c d) ⟨⟨⟨⟨trivial, h0⟩, h1⟩, h2⟩, h3⟩).says (Says.agg (.cons (Says.int (by simp only [S.RSquo_0, h3, h2, h1, h0, cond_true, cond_false])) (.cons (Says.int (by simp only [S.RSquo_1, h3, h2, h1, h0, cond_true, cond_false])) (.nil))))
   ·
    exact (sim_run (S.hE S.o_RSmul_ok) (S.RSquo_r3 a b c d) ⟨⟨⟨trivial, h0⟩, h1⟩, h2⟩).says (Says.agg (.cons (Says.int (by simp only [S.RSquo_0, h2, h1, h0, cond_true, cond_false])) (.cons (Says.int (by simp only [S.RSquo_1, h2, h1, h0, cond_true, cond_false])) (.nil))))
def S.o_RSquo : Orc := orcAdd 16 (fun | [.str true t0, .agg [.int true .i64 a, .int true .i64 b], .agg [.int true .i64 c, .int true .i64 d]] => (match t0.data.toList == [47] with | true => some (.agg [.int true .i64 (S.RSquo_0 a b c d), .int true .i64 (S.RSquo_1 a b c d)]) | false => none) | _ => none) S.o_RSmul
theorem S.o_RSquo_ok : OrcOk prog S.o_RSquo := orcAdd_ok S.o_RSmul_ok fun a v h => by
  try dsimp only at h
  split at h
  · rename_i t0 a b c d
    split at h
    · rename_i ht; cases h; have ht0 := ht; obtain rfl := ba_eq ht0; exact S.RSquo_sim a b c d
    · cases h
  · cases h
def S.RSrem_0 (a b c d : Int) : Int := (bif S.rEmpty a b then (1) else (bif S.rEmpty c d then (1) else (bif a == b then (bif c == d then (bif S.rBrem_1 a c != 0 then (1) else (S.rBrem_0 a c)) else (S.rrest_0 a b c d)) else (S.rrest_0 a b c d))))
def S.RSrem_1 (a b c d : Int) : Int := (bif S.rEmpty a b then (0) else (bif S.rEmpty c d then (0) else (bif a == b then (bif c == d then (bif S.rBrem_1 a c != 0 then (0) else (S.rBrem_0 a c)) else (S.rrest_1 a b c d)) else (S.rrest_1 a b c d))))
theorem S.RSrem_r0 (a b c d : Int) : run (envC prog imA 300 {} S.o_RSquo) 16 [.str false ⟨#[37]⟩, .agg [.int true .i64 a, .int true .i64 b], .agg [.int true .i64 c, .int true .i64 d]] [] [.br true] = some (True ∧ S.rEmpty a b = true, .agg [.int false .i64 1, .int false .i64 0], []) := by kernel_rfl
theorem S.RSrem_r1 (a b c d : Int) : run (envC prog imA 300 {} S.o_RSquo) 16 [.str false ⟨#[37]⟩, .agg [.int true .i64 a, .int true .i64 b], .agg [.int true .i64 c, .int true .i64 d]] [] [.br false, .br true] = some ((True ∧ S.rEmpty a b = false) ∧ S.rEmpty c d = true, .agg [.int false .i64 1, .int false .i64 0], []) := by kernel_rfl
theorem S.RSrem_r2 (a b c d : Int) : run (envC prog imA 300 {} S.o_RSquo) 16 [.str false ⟨#[37]⟩, .agg [.int true .i64 a, .int true .i64 b], .agg [.int true .i64 c, .int true .i64 d]] [] [.br false, .br false, .br true, .br true, .br true] = some (((((True ∧ S.rEmpty a b = false) ∧ S.rEmpty c d = false) ∧ (a == b) = true) ∧ (c == d) = true) ∧ (S.rBrem_1 a c != 0) = true, .agg [.int false .i64 1, .int false .i64 0], []) := by kernel_rfl
theorem S.RSrem_r3 (a b c d : Int) : run (envC prog imA 300 {} S.o_RSquo) 16 [.str false ⟨#[37]⟩, .agg [.int true .i64 a, .int true .i64 b], .agg [.int true .i64 c, .int true .i64 d]] [] [.br false, .br false, .br false] = some (((True ∧ S.rEmpty a b = false) ∧ S.rEmpty c d = false) ∧ (a == b) = false, .agg [.int true .i64 (S.rrest_0 a b c d), .int true .i64 (S.rrest_1 a b c d)], []) := by kernel_rfl
theorem S.RSrem_r4 (a b c d : Int) : run (envC prog imA 300 {} S.o_RSquo) 16 [.str false ⟨#[37]⟩, .agg [.int true .i64 a, .int true .i64 b], .agg [.int true .i64 c, .int true .i64 d]] [] [.br false, .br false, .br true, .br false] = some ((((True ∧ S.rEmpty a b = false) ∧ S.rEmpty c d = false) ∧ (a == b) = true) ∧ (c == d) = false, .agg [.int true .i64 (S.rrest_0 a b c d), .int true .i64 (S.rrest_1 a b c d)], []) := by kernel_rfl
theorem S.RSrem_r5 (a b c d : Int) : run (envC prog imA 300 {} S.o_RSquo) 16 [.str false ⟨#[37]⟩, .agg [.int true .i64 a, .int true .i64 b], .agg [.int true .i64 c, .int true .i64 d]] [] [.br false, .br false, .br true, .br true, .br false] = some (((((True ∧ S.rEmpty a b = false) ∧ S.rEmpty c d = false) ∧ (a == b) = true) ∧ (c == d) = true) ∧ (S.rBrem_1 a c != 0) = false, .agg [.int true .i64 (S.rBrem_0 a c), .int true .i64 (S.rBrem_0 a c)], []) := by kernel_rfl
theorem S.RSrem_sim (a b c d : Int) : Sim prog 16 [.str true ⟨#[37]⟩, .agg [.int true .i64 a, .int true .i64 b], .agg [.int true .i64 c, .int true .i64 d]] [] (.agg [.int true .i64 (S.RSrem_0 a b c d), .int true .i64 (S.RSrem_1 a b c d)]) [] := by
 refine Sim.args (args' := [.str false ⟨#[37]⟩, .agg [.int true .i64 a, .int true .i64 b], .agg [.int true .i64 c, .int true .i64 d]]) ?_ (.cons (Says.str rfl) (.cons (Says.refl _) (.cons (Says.refl _) (.nil))))
 rcases Bool.eq_false_or_eq_true (S.rEmpty a b) with h0 | h0
 ·
  exact (sim_run (S.hE S.o_RSquo_ok) (S.RSrem_r0 a b c d) ⟨trivial, h0⟩).says (Says.agg (.cons (Says.int (by simp only [S.RSrem_0, h0, cond_true, cond_false])) (.cons (Says.int (by simp only [S.RSrem_1, h0, cond_true, cond_false])) (.nil))))
 ·
  rcases Bool.eq_false_or_eq_true (S.rEmpty c d) with h1 | h1
  ·
   exact (sim_run (S.hE S.o_RSquo_ok) (S.RSrem_r1 a b c d) ⟨⟨trivial, h0⟩, h1⟩).says (Says.agg (.cons (Says.int (by simp only [S.RSrem_0, h1, h0, cond_true, cond_false])) (.cons (Says.int (by simp only [S.RSrem_1, h1, h0, cond_true, cond_false])) (.nil))))
  ·
   rcases Bool.eq_false_or_eq_true (a == b) with h2 | h2
   ·
    rcases Bool.eq_false_or_eq_true (c == d) with h3 | h3
    ·
     rcases Bool.eq_false_or_eq_true (S.rBrem_1 a c != 0) with h4 | h4
     ·
      exact (sim_run (S.hE S.o_RSquo_ok) (S.RSrem_r2 a b c d) ⟨⟨⟨⟨⟨trivial, h0⟩, h1⟩, h2⟩, h3⟩, h4⟩).says (Says.agg (.cons (Says.int (by simp only [S.RSrem_0, h4, h3, h2, h1, h0, cond_true, cond_false])) (.cons (Says.int (by simp only [S.RSrem_1, h4, h3, h2, h1, h0, cond_true, cond_false])) (.nil))))
     ·
      exact (sim_run (S.hE S.o_RSquo_ok) (S.RSrem_r5 a b c d) ⟨⟨⟨⟨⟨trivial, h0⟩, h1⟩, h2⟩, h3⟩, h4⟩).says (Says.agg (.cons (Says.int (by simp only [S.RSrem_0, h4, h3, h2, h1, h0, cond_true, cond_false])) (.cons (Says.int (by simp only [S.RSrem_1, h4, h3, h2, h1, h0, cond_true, cond_false])) (.nil))))
    ·
     exact (sim_run (S.hE S.o_RSquo_ok) (S.RSrem_r4 a b c d) ⟨⟨⟨⟨trivial, h0⟩, h1⟩, h2⟩, h3⟩).says (Says.agg (.cons (Says.int (by simp only [S.RSrem_0, h3, h2, h1, h0, cond_true, cond_false])) (.cons (Says.int (by simp only [S.RSrem_1, h3, h2, h1, h0, cond_true, cond_false])) (.nil))))
   ·
    exact (sim_run (S.hE S.o_RSquo_ok) (S.RSrem_r3 a b c d) ⟨⟨⟨trivial, h0⟩, h1⟩, h2⟩).says (Says.agg (.cons (Says.int (by simp only [S.RSrem_0, h2, h1, h0, cond_true, cond_false])) (.cons (Says.int (by simp only [S.RSrem_1, h2, h1, h0, cond_true, cond_false])) (.nil))))
def S.o_RSrem : Orc := orcAdd 16 (fun | [.str true t0, .agg [.int true .i64 a, .int true .i64 b], .agg [.int true .i64 c, .int true .i64 d]] => (match t0.data.toList == [37] with | true => some (.agg [.int true .i64 (S.RSrem_0 a b c d), .int true .i64 (S.RSrem_1 a b c d)]) | false => none) | _ => none) S.o_RSquo
theorem S.o_RSrem_ok : OrcOk prog S.o_RSrem := orcAdd_ok S.o_RSquo_ok fun a v h => by
  try dsimp only at h
  split at h
  · rename_i t0 a b c d
    split at h
    · rename_i ht; cases h; have ht0 := ht; obtain rfl := ba_eq ht0; exact S.RSrem_sim a b c d
    · cases h
  · cases h
def S.RUneg_0 (a b : Int) : Int := (bif S.rEmpty a b then (1) else (bif a == b then (S.rspan_0 (IntKind.wrap .i64 (0 - a)) (IntKind.wrap .i64 (0 - a))) else (bif S.rHas a b (-9223372036854775808) then (-9223372036854775808) else (S.rspan_0 (IntKind.wrap .i64 (0 - b)) (IntKind.wrap .i64 (0 - a))))))
def S.RUneg_1 (a b : Int) : Int := (bif S.rEmpty a b then (0) else (bif a == b then (S.rspan_1 (IntKind.wrap .i64 (0 - a)) (IntKind.wrap .i64 (0 - a))) else (bif S.rHas a b (-9223372036854775808) then (9223372036854775807) else (S.rspan_1 (IntKind.wrap .i64 (0 - b)) (IntKind.wrap .i64 (0 - a))))))
theorem S.RUneg_r0 (a b : Int) : run (envC prog imA 300 {} S.o_RSrem) 18 [.str false ⟨#[45]⟩, .agg [.int true .i64 a, .int true .i64 b]] [] [.br true] = some (True ∧ S.rEmpty a b = true, .agg [.int false .i64 1, .int false .i64 0], []) := by kernel_rfl
theorem S.RUneg_r1 (a b : Int) : run (envC prog imA 300 {} S.o_RSrem) 18 [.str false ⟨#[45]⟩, .agg [.int true .i64 a, .int true .i64 b]] [] [.br false, .br true] = some ((True ∧ S.rEmpty a b = false) ∧ (a == b) = true, .agg [.int true .i64 (S.rspan_0 (IntKind.wrap .i64 (0 - a)) (IntKind.wrap .i64 (0 - a))), .int true .i64 (S.rspan_1 (IntKind.wrap .i64 (0 - a)) (IntKind.wrap .i64 (0 - a)))], []) := by kernel_rfl
theorem S.RUneg_r2 (a b : Int) : run (envC prog imA 300 {} S.o_RSrem) 18 [.str false ⟨#[45]⟩, .agg [.int true .i64 a, .int true .i64 b]] [] [.br false, .br false, .br true] = some (((True ∧ S.rEmpty a b = false) ∧ (a == b) = false) ∧ S.rHas a b (-9223372036854775808) = true, .agg [.int false .i64 (-9223372036854775808), .int false .i64 9223372036854775807], []) := by kernel_rfl
theorem S.RUneg_r3 (a b : Int) : run (envC prog imA 300 {} S.o_RSrem) 18 [.str false ⟨#[45]⟩, .agg [.int true .i64 a, .int true .i64 b]] [] [.br false, .br false, .br false] = some (((True ∧ S.rEmpty a b = false) ∧ (a == b) = false) ∧ S.rHas a b (-9223372036854775808) = false, .agg [.int true .i64 (S.rspan_0 (IntKind.wrap .i64 (0 - b)) (IntKind.wrap .i64 (0 - a))), .int true .i64 (S.rspan_1 (IntKind.wrap .i64 (0 - b)) (IntKind.wrap .i64 (0 - a)))], []) := by kernel_rfl
theorem S.RUneg_sim (a b : Int) : Sim prog 18 [.str true ⟨#[45]⟩, .agg [.int true .i64 a, .int true .i64 b]] [] (.agg [.int true .i64 (S.RUneg_0 a b), .int true .i64 (S.RUneg_1 a b)]) [] := by
 refine Sim.args (args' := [.str false ⟨#[45]⟩, .agg [.int true .i64 a, .int true .i64 b]]) ?_ (.cons (Says.str rfl) (.cons (Says.refl _) (.nil)))
 rcases Bool.eq_false_or_eq_true (S.rEmpty a b) with h0 | h0
 ·
  exact (sim_run (S.hE S.o_RSrem_ok) (S.RUneg_r0 a b) ⟨trivial, h0⟩).says (Says.agg (.cons (Says.int (by simp only [S.RUneg_0, h0, cond_true, cond_false])) (.cons (Says.int (by simp only [S.RUneg_1, h0, cond_true, cond_false])) (.nil))))
 ·
  rcases Bool.eq_false_or_eq_true (a == b) with h1 | h1
  ·
   exact (sim_run (S.hE S.o_RSrem_ok) (S.RUneg_r1 a b) ⟨⟨trivial, h0⟩, h1⟩).says (Says.agg (.cons (Says.int (by simp only [S.RUneg_0, h1, h0, cond_true, cond_false])) (.cons (Says.int (by simp only [S.RUneg_1, h1, h0, cond_true, cond_false])) (.nil))))
  ·
   rcases Bool.eq_false_or_eq_true (S.rHas a b (-9223372036854775808)) with h2 | h2
   ·
    exact (sim_run (S.hE S.o_RSrem_ok) (S.RUneg_r2 a b) ⟨⟨⟨trivial, h0⟩, h1⟩, h2⟩).says (Says.agg (.cons (Says.int (by simp only [S.RUneg_0, h2, h1, h0, cond_true, cond_false])) (.cons (Says.int (by simp only [S.RUneg_1, h2, h1, h0, cond_true, cond_false])) (.nil))))
   ·
    exact (sim_run (S.hE S.o_RSrem_ok) (S.RUneg_r3 a b) ⟨⟨⟨trivial, h0⟩, h1⟩, h2⟩).says (Says.agg (.cons (Says.int (by simp only [S.RUneg_0, h2, h1, h0, cond_true, cond_false])) (.cons (Says.int (by simp only [S.RUneg_1, h2, h1, h0, cond_true, cond_false])) (.nil))))
def S.o_RUneg : Orc := orcAdd 18 (fun | [.str true t0, .agg [.int true .i64 a, .int true .i64 b]] => (match t0.data.toList == [45] with | true => some (.agg [.int true .i64 (S.RUneg_0 a b), .int true .i64 (S.RUneg_1 a b)]) | false => none) | _ => none) S.o_RSrem
theorem S.o_RUneg_ok : OrcOk prog S.o_RUneg := orcAdd_ok S.o_RSrem_ok fun a v h => by
  try dsimp only at h
  split at h
  · rename_i t0 a b
    split at h
    · rename_i ht; cases h; have ht0 := ht; obtain rfl := ba_eq ht0; exact S.RUneg_sim a b
    · cases h
  · cases h
def S.RUnot_0 (a b : Int) : Int := (bif S.rEmpty a b then (1) else (S.rspan_0 (IntKind.wrap .i64 (-1 - b)) (IntKind.wrap .i64 (-1 - a))))
def S.RUnot_1 (a b : Int) : Int := (bif S.rEmpty a b then (0) else (S.rspan_1 (IntKind.wrap .i64 (-1 - b)) (IntKind.wrap .i64 (-1 - a))))
theorem S.RUnot_r0 (a b : Int) : run (envC prog imA 300 {} S.o_RUneg) 18 [.str false ⟨#[126]⟩, .agg [.int true .i64 a, .int true .i64 b]] [] [.br true] = some (True ∧ S.rEmpty a b = true, .agg [.int false .i64 1, .int false .i64 0], []) := by kernel_rfl
theorem S.RUnot_r1 (a b : Int) : run (envC prog imA 300 {} S.o_RUneg) 18 [.str false ⟨#[126]⟩, .agg [.int true .i64 a, .int true .i64 b]] [] [.br false] = some (True ∧ S.rEmpty a b = false, .agg [.int true .i64 (S.rspan_0 (IntKind.wrap .i64 (-1 - b)) (IntKind.wrap .i64 (-1 - a))), .int true .i64 (S.rspan_1 (IntKind.wrap .i64 (-1 - b)) (IntKind.wrap .i64 (-1 - a)))], []) := by kernel_rfl
theorem S.RUnot_sim (a b : Int) : Sim prog 18 [.str true ⟨#[126]⟩, .agg [.int true .i64 a, .int true .i64 b]] [] (.agg [.int true .i64 (S.RUnot_0 a b), .int true .i64 (S.RUnot_1 a b)]) [] := by
 refine Sim.args (args' := [.str false ⟨#[126]⟩, .agg [.int true .i64 a, .int true .i64 b]]) ?_ (.cons (Says.str rfl) (.cons (Says.refl _) (.nil)))
 rcases Bool.eq_false_or_eq_true (S.rEmpty a b) with h0 | h0
 ·
  exact (sim_run (S.hE S.o_RUneg_ok) (S.RUnot_r0 a b) ⟨trivial, h0⟩).says (Says.agg (.cons (Says.int (by simp only [S.RUnot_0, h0, cond_true, cond_false])) (.cons (Says.int (by simp only [S.RUnot_1, h0, cond_true, cond_false])) (.nil))))
 ·
  exact (sim_run (S.hE S.o_RUneg_ok) (S.RUnot_r1 a b) ⟨trivial, h0⟩).says (Says.agg (.cons (Says.int (by simp only [S.RUnot_0, h0, cond_true, cond_false])) (.cons (Says.int (by simp only [S.RUnot_1, h0, cond_true, cond_false])) (.nil))))
def S.o_RUnot : Orc := orcAdd 18 (fun | [.str true t0, .agg [.int true .i64 a, .int true .i64 b]] => (match t0.data.toList == [126] with | true => some (.agg [.int true .i64 (S.RUnot_0 a b), .int true .i64 (S.RUnot_1 a b)]) | false => none) | _ => none) S.o_RUneg
theorem S.o_RUnot_ok : OrcOk prog S.o_RUnot := orcAdd_ok S.o_RUneg_ok fun a v h => by
  try dsimp only at h
  split at h
  · rename_i t0 a b
    split at h
    · rename_i ht; cases h; have ht0 := ht; obtain rfl := ba_eq ht0; exact S.RUnot_sim a b
    · cases h
  · cases h
def S.RUbang_0 (a b : Int) : Int := (bif S.rEmpty a b then (1) else (S.rspan_0 (IntKind.wrap .i64 (1 - S.rTruth_1 a b)) (IntKind.wrap .i64 (1 - S.rTruth_0 a b))))
def S.RUbang_1 (a b : Int) : Int := (bif S.rEmpty a b then (0) else (S.rspan_1 (IntKind.wrap .i64 (1 - S.rTruth_1 a b)) (IntKind.wrap .i64 (1 - S.rTruth_0 a b))))
theorem S.RUbang_r0 (a b : Int) : run (envC prog imA 300 {} S.o_RUnot) 18 [.str false ⟨#[33]⟩, .agg [.int true .i64 a, .int true .i64 b]] [] [.br true] = some (True ∧ S.rEmpty a b = true, .agg [.int false .i64 1, .int false .i64 0], []) := by kernel_rfl
theorem S.RUbang_r1 (a b : Int) : run (envC prog imA 300 {} S.o_RUnot) 18 [.str false ⟨#[33]⟩, .agg [.int true .i64 a, .int true .i64 b]] [] [.br false] = some (True ∧ S.rEmpty a b = false, .agg [.int true .i64 (S.rspan_0 (IntKind.wrap .i64 (1 - S.rTruth_1 a b)) (IntKind.wrap .i64 (1 - S.rTruth_0 a b))), .int true .i64 (S.rspan_1 (IntKind.wrap .i64 (1 - S.rTruth_1 a b)) (IntKind.wrap .i64 (1 - S.rTruth_0 a b)))], []) := by kernel_rfl
theorem S.RUbang_sim (a b : Int) : Sim prog 18 [.str true ⟨#[33]⟩, .agg [.int true .i64 a, .int true .i64 b]] [] (.agg [.int true .i64 (S.RUbang_0 a b), .int true .i64 (S.RUbang_1 a b)]) [] := by
 refine Sim.args (args' := [.str false ⟨#[33]⟩, .agg [.int true .i64 a, .int true .i64 b]]) ?_ (.cons (Says.str rfl) (.cons (Says.refl _) (.nil)))
 rcases Bool.eq_false_or_eq_true (S.rEmpty a b) with h0 | h0
 ·
  exact (sim_run (S.hE S.o_RUnot_ok) (S.RUbang_r0 a b) ⟨trivial, h0⟩).says (Says.agg (.cons (Says.int (by simp only [S.RUbang_0, h0, cond_true, cond_false])) (.cons (Says.int (by simp only [S.RUbang_1, h0, cond_true, cond_false])) (.nil))))
 ·
  exact (sim_run (S.hE S.o_RUnot_ok) (S.RUbang_r1 a b) ⟨trivial, h0⟩).says (Says.agg (.cons (Says.int (by simp only [S.RUbang_0, h0, cond_true, cond_false])) (.cons (Says.int (by simp only [S.RUbang_1, h0, cond_true, cond_false])) (.nil))))
def S.o_RUbang : Orc := orcAdd 18 (fun | [.str true t0, .agg [.int true .i64 a, .int true .i64 b]] => (match t0.data.toList == [33] with | true => some (.agg [.int true .i64 (S.RUbang_0 a b), .int true .i64 (S.RUbang_1 a b)]) | false => none) | _ => none) S.o_RUnot
theorem S.o_RUbang_ok : OrcOk prog S.o_RUbang := orcAdd_ok S.o_RUnot_ok fun a v h => by
  try dsimp only at h
  split at h
  · rename_i t0 a b
    split at h
    · rename_i ht; cases h; have ht0 := ht; obtain rfl := ba_eq ht0; exact S.RUbang_sim a b
    · cases h
  · cases h
def S.RTlt_0 (a b c d : Int) : Int := (bif S.rEmpty a b then (1) else (bif S.rEmpty c d then (1) else (bif d == -9223372036854775808 then (1) else (S.rspan_0 a (if true = true then if IntKind.wrap .i64 (d - 1) < b then IntKind.wrap .i64 (d - 1) else b else if IntKind.wrap .i64 (d - 1) > b then IntKind.wrap .i64 (d - 1) else b)))))
def S.RTlt_1 (a b c d : Int) : Int := (bif S.rEmpty a b then (0) else (bif S.rEmpty c d then (0) else (bif d == -9223372036854775808 then (0) else (S.rspan_1 a (if true = true then if IntKind.wrap .i64 (d - 1) < b then IntKind.wrap .i64 (d - 1) else b else if IntKind.wrap .i64 (d - 1) > b then IntKind.wrap .i64 (d - 1) else b)))))
theorem S.RTlt_r0 (a b c d : Int) : run (envC prog imA 300 {} S.o_RUbang) 22 [.agg [.int true .i64 a, .int true .i64 b], .str false ⟨#[60]⟩, .agg [.int true .i64 c, .int true .i64 d]] [] [.br true] = some (True ∧ S.rEmpty a b = true, .agg [.int false .i64 1, .int false .i64 0], []) := by kernel_rfl
theorem S.RTlt_r1 (a b c d : Int) : run (envC prog imA 300 {} S.o_RUbang) 22 [.agg [.int true .i64 a, .int true .i64 b], .str false ⟨#[60]⟩, .agg [.int true .i64 c, .int true .i64 d]] [] [.br false, .br true] = some ((True ∧ S.rEmpty a b = false) ∧ S.rEmpty c d = true, .agg [.int false .i64 1, .int false .i64 0], []) := by kernel_rfl
theorem S.RTlt_r2 (a b c d : Int) : run (envC prog imA 300 {} S.o_RUbang) 22 [.agg [.int true .i64 a, .int true .i64 b], .str false ⟨#[60]⟩, .agg [.int true .i64 c, .int true .i64 d]] [] [.br false, .br false, .br true] = some (((True ∧ S.rEmpty a b = false) ∧ S.rEmpty c d = false) ∧ (d == -9223372036854775808) = true, .agg [.int false .i64 1, .int false .i64 0], []) := by kernel_rfl
theorem S.RTlt_r3 (a b c d : Int) : run (envC prog imA 300 {} S.o_RUbang) 22 [.agg [.int true .i64 a, .int true .i64 b], .str false ⟨#[60]⟩, .agg [.int true .i64 c, .int true .i64 d]] [] [.br false, .br false, .br false] = some (((True ∧ S.rEmpty a b = false) ∧ S.rEmpty c d = false) ∧ (d == -9223372036854775808) = false, .agg [.int true .i64 (S.rspan_0 a (if true = true then if IntKind.wrap .i64 (d - 1) < b then IntKind.wrap .i64 (d - 1) else b else if IntKind.wrap .i64 (d - 1) > b then IntKind.wrap .i64 (d - 1) else b)), .int true .i64 (S.rspan_1 a (if true = true then if IntKind.wrap .i64 (d - 1) < b then IntKind.wrap .i64 (d - 1) else b else if IntKind.wrap .i64 (d - 1) > b then IntKind.wrap .i64 (d - 1) else b))], []) := by kernel_rfl
theorem S.RTlt_sim (a b c d : Int) : Sim prog 22 [.agg [.int true .i64 a, .int true .i64 b], .str true ⟨#[60]⟩, .agg [.int true .i64 c, .int true .i64 d]] [] (.agg [.int true .i64 (S.RTlt_0 a b c d), .int true .i64 (S.RTlt_1 a b c d)]) [] := by
 refine Sim.args (args' := [.agg [.int true .i64 a, .int true .i64 b], .str false ⟨#[60]⟩, .agg [.int true .i64 c, .int true .i64 d]]) ?_ (.cons (Says.refl _) (.cons (Says.str rfl) (.cons (Says.refl _) (.nil))))
 rcases Bool.eq_false_or_eq_true (S.rEmpty a b) with h0 | h0
 ·
  exact (sim_run (S.hE S.o_RUbang_ok) (S.RTlt_r0 a b c d) ⟨trivial, h0⟩).says (Says.agg (.cons (Says.int (by simp only [S.RTlt_0, h0, cond_true, cond_false])) (.cons (Says.int (by simp only [S.RTlt_1, h0, cond_true, cond_false])) (.nil))))
 ·
  rcases Bool.eq_false_or_eq_true (S.rEmpty c d) with h1 | h1
  ·
   exact (sim_run (S.hE S.o_RUbang_ok) (S.RTlt_r1 a b c d) ⟨⟨trivial, h0⟩, h1⟩).says (Says.agg (.cons (Says.int (by simp only [S.RTlt_0, h1, h0, cond_true, cond_false])) (.cons (Says.int (by simp only [S.RTlt_1, h1, h0, cond_true, cond_false])) (.nil))))
  ·
   rcases Bool.eq_false_or_eq_true (d == -9223372036854775808) with h2 | h2
   ·
    exact (sim_run (S.hE S.o_RUbang_ok) (S.RTlt_r2 a b c d) ⟨⟨⟨trivial, h0⟩, h1⟩, h2⟩).says (Says.agg (.cons (Says.int (by simp only [S.RTlt_0, h2, h1, h0, cond_true, cond_false])) (.cons (Says.int (by simp only [S.RTlt_1, h2, h1, h0, cond_true, cond_false])) (.nil))))
   ·
    exact (sim_run (S.hE S.o_RUbang_ok) (S.RTlt_r3 a b c d) ⟨⟨⟨trivial, h0⟩, h1⟩, h2⟩).says (Says.agg (.cons (Says.int (by simp only [S.RTlt_0, h2, h1, h0, cond_true, cond_false])) (.cons (Says.int (by simp only [S.RTlt_1, h2, h1, h0, cond_true, cond_false])) (.nil))))
def S.o_RTlt : Orc := orcAdd 22 (fun | [.agg [.int true .i64 a, .int true .i64 b], .str true t1, .agg [.int true .i64 c, .int true .i64 d]] => (match t1.data.toList == [60] with | true => some (.agg [.int true .i64 (S.RTlt_0 a b c d), .int true .i64 (S.RTlt_1 a b c d)]) | false => none) | _ => none) S.o_RUbang
theorem S.o_RTlt_ok : OrcOk prog S.o_RTlt := orcAdd_ok S.o_RUbang_ok fun a v h => by
  try dsimp only at h
  split at h
  · rename_i a b t1 c d
    split at h
    · rename_i ht; cases h; have ht1 := ht; obtain rfl := ba_eq ht1; exact S.RTlt_sim a b c d
    · cases h
  · cases h
def S.RTle_0 (a b c d : Int) : Int := (bif S.rEmpty a b then (1) else (bif S.rEmpty c d then (1) else (S.rspan_0 a (if true = true then if d < b then d else b else if d > b then d else b))))
def S.RTle_1 (a b c d : Int) : Int := (bif S.rEmpty a b then (0) else (bif S.rEmpty c d then (0) else (S.rspan_1 a (if true = true then if d < b then d else b else if d > b then d else b))))
theorem S.RTle_r0 (a b c d : Int) : run (envC prog imA 300 {} S.o_RTlt) 22 [.agg [.int true .i64 a, .int true .i64 b], .str false ⟨#[60, 61]⟩, .agg [.int true .i64 c, .int true .i64 d]] [] [.br true] = some (True ∧ S.rEmpty a b = true, .agg [.int false .i64 1, .int false .i64 0], []) := by kernel_rfl
theorem S.RTle_r1 (a b c d : Int) : run (envC prog imA 300 {} S.o_RTlt) 22 [.agg [.int true .i64 a, .int true .i64 b], .str false ⟨#[60, 61]⟩, .agg [.int true .i64 c, .int true .i64 d]] [] [.br false, .br true] = some ((True ∧ S.rEmpty a b = false) ∧ S.rEmpty c d = true, .agg [.int false .i64 1, .int false .i64 0], []) := by kernel_rfl
theorem S.RTle_r2 (a b c d : Int) : run (envC prog imA 300 {} S.o_RTlt) 22 [.agg [.int true .i64 a, .int true .i64 b], .str false ⟨#[60, 61]⟩, .agg [.int true .i64 c, .int true .i64 d]] [] [.br false, .br false] = some ((True ∧ S.rEmpty a b = false) ∧ S.rEmpty c d = false, .agg [.int true .i64 (S.rspan_0 a (if true = true then if d < b then d else b else if d > b then d else b)), .int true .i64 (S.rspan_1 a (if true = true then if d < b then d else b else if d > b then d else b))], []) := by kernel_rfl
theorem S.RTle_sim (a b c d : Int) : Sim prog 22 [.agg [.int true .i64 a, .int true .i64 b], .str true ⟨#[60, 61]⟩, .agg [.int true .i64 c, .int true .i64 d]] [] (.agg [.int true .i64 (S.RTle_0 a b c d), .int true .i64 (S.RTle_1 a b c d)]) [] := by
 refine Sim.args (args' := [.agg [.int true .i64 a, .int true .i64 b], .str false ⟨#[60, 61]⟩, .agg [.int true .i64 c, .int true .i64 d]]) ?_ (.cons (Says.refl _) (.cons (Says.str rfl) (.cons (Says.refl _) (.nil))))
 rcases Bool.eq_false_or_eq_true (S.rEmpty a b) with h0 | h0
 ·
  exact (sim_run (S.hE S.o_RTlt_ok) (S.RTle_r0 a b c d) ⟨trivial, h0⟩).says (Says.agg (.cons (Says.int (by simp only [S.RTle_0, h0, cond_true, cond_false])) (.cons (Says.int (by simp only [S.RTle_1, h0, cond_true, cond_false])) (.nil))))
 ·
  rcases Bool.eq_false_or_eq_true (S.rEmpty c d) with h1 | h1
  ·
   exact (sim_run (S.hE S.o_RTlt_ok) (S.RTle_r1 a b c d) ⟨⟨trivial, h0⟩, h1⟩).says (Says.agg (.cons (Says.int (by simp only [S.RTle_0, h1, h0, cond_true, cond_false])) (.cons (Says.int (by simp only [S.RTle_1, h1, h0, cond_true, cond_false])) (.nil))))
  ·
   exact (sim_run (S.hE S.o_RTlt_ok) (S.RTle_r2 a b c d) ⟨⟨trivial, h0⟩, h1⟩).says (Says.agg (.cons (Says.int (by simp only [S.RTle_0, h1, h0, cond_true, cond_false])) (.cons (Says.int (by simp only [S.RTle_1, h1, h0, cond_true, cond_false])) (.nil))))
def S.o_RTle : Orc := orcAdd 22 (fun | [.agg [.int true .i64 a, .int true .i64 b], .str true t1, .agg [.int true .i64 c, .int true .i64 d]] => (match t1.data.toList == [60, 61] with | true => some (.agg [.int true .i64 (S.RTle_0 a b c d), .int true .i64 (S.RTle_1 a b c d)]) | false => none) | _ => none) S.o_RTlt
theorem S.o_RTle_ok : OrcOk prog S.o_RTle := orcAdd_ok S.o_RTlt_ok fun a v h => by
  try dsimp only at h
  split at h
  · rename_i a b t1 c d
    split at h
    · rename_i ht; cases h; have ht1 := ht; obtain rfl := ba_eq ht1; exact S.RTle_sim a b c d
    · cases h
  · cases h
def S.RTgt_0 (a b c d : Int) : Int := (bif S.rEmpty a b then (1) else (bif S.rEmpty c d then (1) else (bif c == 9223372036854775807 then (1) else (S.rspan_0 (if false = true then if IntKind.wrap .i64 (c + 1) < a then IntKind.wrap .i64 (c + 1) else a else if IntKind.wrap .i64 (c + 1) > a then IntKind.wrap .i64 (c + 1) else a) b))))
def S.RTgt_1 (a b c d : Int) : Int := (bif S.rEmpty a b then (0) else (bif S.rEmpty c d then (0) else (bif c == 9223372036854775807 then (0) else (S.rspan_1 (if false = true then if IntKind.wrap .i64 (c + 1) < a then IntKind.wrap .i64 (c + 1) else a else if IntKind.wrap .i64 (c + 1) > a then IntKind.wrap .i64 (c + 1) else a) b))))
theorem S.RTgt_r0 (a b c d : Int) : run (envC prog imA 300 {} S.o_RTle) 22 [.agg [.int true .i64 a, .int true .i64 b], .str false ⟨#[62]⟩, .agg [.int true .i64 c, .int true .i64 d]] [] [.br true] = some (True ∧ S.rEmpty a b = true, .agg [.int false .i64 1, .int false .i64 0], []) := by kernel_rfl
theorem S.RTgt_r1 (a b c d : Int) : run (envC prog imA 300 {} S.o_RTle) 22 [.agg [.int true .i64 a, .int true .i64 b], .str false ⟨#[62]⟩, .agg [.int true .i64 c, .int true .i64 d]] [] [.br false, .br true] = some ((True ∧ S.rEmpty a b = false) ∧ S.rEmpty c d = true, .agg [.int false .i64 1, .int false .i64 0], []) := by kernel_rfl
theorem S.RTgt_r2 (a b c d : Int) : run (envC prog imA 300 {} S.o_RTle) 22 [.agg [.int true .i64 a, .int true .i64 b], .str false ⟨#[62]⟩, .agg [.int true .i64 c, .int true .i64 d]] [] [.br false, .br false, .br true] = some (((True ∧ S.rEmpty a b = false) ∧ S.rEmpty c d = false) ∧ (c == 9223372036854775807) = true, .agg [.int false .i64 1, .int false .i64 0], []) := by kernel_rfl
theorem S.RTgt_r3 (a b c d : Int) : run (envC prog imA 300 {} S.o_RTle) 22 [.agg [.int true .i64 a, .int true .i64 b], .str false ⟨#[62]⟩, .agg [.int true .i64 c, .int true .i64 d]] [] [.br false, .br false, .br false] = some (((True ∧ S.rEmpty a b = false) ∧ S.rEmpty c d = false) ∧ (c == 9223372036854775807) = false, .agg [.int true .i64 (S.rspan_0 (if false = true then if IntKind.wrap .i64 (c + 1) < a then IntKind.wrap .i64 (c + 1) else a else if IntKind.wrap .i64 (c + 1) > a then IntKind.wrap .i64 (c + 1) else a) b), .int true .i64 (S.rspan_1 (if false = true then if IntKind.wrap .i64 (c + 1) < a then IntKind.wrap .i64 (c + 1) else a else if IntKind.wrap .i64 (c + 1) > a then IntKind.wrap .i64 (c + 1) else a) b)], []) := by kernel_rfl
theorem S.RTgt_sim (a b c d : Int) : Sim prog 22 [.agg [.int true .i64 a, .int true .i64 b], .str true ⟨#[62]⟩, .agg [.int true .i64 c, .int true .i64 d]] [] (.agg [.int true .i64 (S.RTgt_0 a b c d), .int true .i64 (S.RTgt_1 a b c d)]) [] := by
 refine Sim.args (args' := [.agg [.int true .i64 a, .int true .i64 b], .str false ⟨#[62]⟩, .agg [.int true .i64 c, .int true .i64 d]]) ?_ (.cons (Says.refl _) (.cons (Says.str rfl) (.cons (Says.refl _) (.nil))))
 rcases Bool.eq_false_or_eq_true (S.rEmpty a b) with h0 | h0
 ·
  exact (sim_run (S.hE S.o_RTle_ok) (S.RTgt_r0 a b c d) ⟨trivial, h0⟩).says (Says.agg (.cons (Says.int (by simp only [S.RTgt_0, h0, cond_true, cond_false])) (.cons (Says.int (by simp only [S.RTgt_1, h0, cond_true, cond_false])) (.nil))))
 ·
  rcases Bool.eq_false_or_eq_true (S.rEmpty c d) with h1 | h1
  ·
   exact (sim_run (S.hE S.o_RTle_ok) (S.RTgt_r1 a b c d) ⟨⟨trivial, h0⟩, h1⟩).says (Says.agg (.cons (Says.int (by simp only [S.RTgt_0, h1, h0, cond_true, cond_false])) (.cons (Says.int (by simp only [S.RTgt_1, h1, h0, cond_true, cond_false])) (.nil))))
  ·
   rcases Bool.eq_false_or_eq_true (c == 9223372036854775807) with h2 | h2
   ·
    exact (sim_run (S.hE S.o_RTle_ok) (S.RTgt_r2 a b c d) ⟨⟨⟨trivial, h0⟩, h1⟩, h2⟩).says (Says.agg (.cons (Says.int (by simp only [S.RTgt_0, h2, h1, h0, cond_true, cond_false])) (.cons (Says.int (by simp only [S.RTgt_1, h2, h1, h0, cond_true, cond_false])) (.nil))))
   ·
    exact (sim_run (S.hE S.o_RTle_ok) (S.RTgt_r3 a b c d) ⟨⟨⟨trivial, h0⟩, h1⟩, h2⟩).says (Says.agg (.cons (Says.int (by simp only [S.RTgt_0, h2, h1, h0, cond_true, cond_false])) (.cons (Says.int (by simp only [S.RTgt_1, h2, h1, h0, cond_true, cond_false])) (.nil))))
def S.o_RTgt : Orc := orcAdd 22 (fun | [.agg [.int true .i64 a, .int true .i64 b], .str true t1, .agg [.int true .i64 c, .int true .i64 d]] => (match t1.data.toList == [62] with | true => some (.agg [.int true .i64 (S.RTgt_0 a b c d), .int true .i64 (S.RTgt_1 a b c d)]) | false => none) | _ => none) S.o_RTle
theorem S.o_RTgt_ok : OrcOk prog S.o_RTgt := orcAdd_ok S.o_RTle_ok fun a v h => by
  try dsimp only at h
  split at h
  · rename_i a b t1 c d
    split at h
    · rename_i ht; cases h; have ht1 := ht; obtain rfl := ba_eq ht1; exact S.RTgt_sim a b c d
    · cases h
  · cases h
def S.RTge_0 (a b c d : Int) : Int := (bif S.rEmpty a b then (1) else (bif S.rEmpty c d then (1) else (S.rspan_0 (if false = true then if c < a then c else a else if c > a then c else a) b)))
def S.RTge_1 (a b c d : Int) : Int := (bif S.rEmpty a b then (0) else (bif S.rEmpty c d then (0) else (S.rspan_1 (if false = true then if c < a then c else a else if c > a then c else a) b)))
theorem S.RTge_r0 (a b c d : Int) : run (envC prog imA 300 {} S.o_RTgt) 22 [.agg [.int true .i64 a, .int true .i64 b], .str false ⟨#[62, 61]⟩, .agg [.int true .i64 c, .int true .i64 d]] [] [.br true] = some (True ∧ S.rEmpty a b = true, .agg [.int false .i64 1, .int false .i64 0], []) := by kernel_rfl
theorem S.RTge_r1 (a b c d : Int) : run (envC prog imA 300 {} S.o_RTgt) 22 [.agg [.int true .i64 a, .int true .i64 b], .str false ⟨#[62, 61]⟩, .agg [.int true .i64 c, .int true .i64 d]] [] [.br false, .br true] = some ((True ∧ S.rEmpty a b = false) ∧ S.rEmpty c d = true, .agg [.int false .i64 1, .int false .i64 0], []) := by kernel_rfl
theorem S.RTge_r2 (a b c d : Int) : run (envC prog imA 300 {} S.o_RTgt) 22 [.agg [.int true .i64 a, .int true .i64 b], .str false ⟨#[62, 61]⟩, .agg [.int true .i64 c, .int true .i64 d]] [] [.br false, .br false] = some ((True ∧ S.rEmpty a b = false) ∧ S.rEmpty c d = false, .agg [.int true .i64 (S.rspan_0 (if false = true then if c < a then c else a else if c > a then c else a) b), .int true .i64 (S.rspan_1 (if false = true then if c < a then c else a else if c > a then c else a) b)], []) := by kernel_rfl
theorem S.RTge_sim (a b c d : Int) : Sim prog 22 [.agg [.int true .i64 a, .int true .i64 b], .str true ⟨#[62, 61]⟩, .agg [.int true .i64 c, .int true .i64 d]] [] (.agg [.int true .i64 (S.RTge_0 a b c d), .int true .i64 (S.RTge_1 a b c d)]) [] := by
 refine Sim.args (args' := [.agg [.int true .i64 a, .int true .i64 b], .str false ⟨#[62, 61]⟩, .agg [.int true .i64 c, .int true .i64 d]]) ?_ (.cons (Says.refl _) (.cons (Says.str rfl) (.cons (Says.refl _) (.nil))))
 rcases Bool.eq_false_or_eq_true (S.rEmpty a b) with h0 | h0
 ·
  exact (sim_run (S.hE S.o_RTgt_ok) (S.RTge_r0 a b c d) ⟨trivial, h0⟩).says (Says.agg (.cons (Says.int (by simp only [S.RTge_0, h0, cond_true, cond_false])) (.cons (Says.int (by simp only [S.RTge_1, h0, cond_true, cond_false])) (.nil))))
 ·
  rcases Bool.eq_false_or_eq_true (S.rEmpty c d) with h1 | h1
  ·
   exact (sim_run (S.hE S.o_RTgt_ok) (S.RTge_r1 a b c d) ⟨⟨trivial, h0⟩, h1⟩).says (Says.agg (.cons (Says.int (by simp only [S.RTge_0, h1, h0, cond_true, cond_false])) (.cons (Says.int (by simp only [S.RTge_1, h1, h0, cond_true, cond_false])) (.nil))))
  ·
   exact (sim_run (S.hE S.o_RTgt_ok) (S.RTge_r2 a b c d) ⟨⟨trivial, h0⟩, h1⟩).says (Says.agg (.cons (Says.int (by simp only [S.RTge_0, h1, h0, cond_true, cond_false])) (.cons (Says.int (by simp only [S.RTge_1, h1, h0, cond_true, cond_false])) (.nil))))
def S.o_RTge : Orc := orcAdd 22 (fun | [.agg [.int true .i64 a, .int true .i64 b], .str true t1, .agg [.int true .i64 c, .int true .i64 d]] => (match t1.data.toList == [62, 61] with | true => some (.agg [.int true .i64 (S.RTge_0 a b c d), .int true .i64 (S.RTge_1 a b c d)]) | false => none) | _ => none) S.o_RTgt
theorem S.o_RTge_ok : OrcOk prog S.o_RTge := orcAdd_ok S.o_RTgt_ok fun a v h => by
  try dsimp only at h
  split at h
  · rename_i a b t1 c d
    split at h
    · rename_i ht; cases h; have ht1 := ht; obtain rfl := ba_eq ht1; exact S.RTge_sim a b c d
    · cases h
  · cases h
def S.RTeq_0 (a b c d : Int) : Int := (bif S.rEmpty a b then (1) else (bif S.rEmpty c d then (1) else (S.rMeet_0 a b c d)))
def S.RTeq_1 (a b c d : Int) : Int := (bif S.rEmpty a b then (0) else (bif S.rEmpty c d then (0) else (S.rMeet_1 a b c d)))
theorem S.RTeq_r0 (a b c d : Int) : run (envC prog imA 300 {} S.o_RTge) 22 [.agg [.int true .i64 a, .int true .i64 b], .str false ⟨#[61, 61]⟩, .agg [.int true .i64 c, .int true .i64 d]] [] [.br true] = some (True ∧ S.rEmpty a b = true, .agg [.int false .i64 1, .int false .i64 0], []) := by kernel_rfl
theorem S.RTeq_r1 (a b c d : Int) : run (envC prog imA 300 {} S.o_RTge) 22 [.agg [.int true .i64 a, .int true .i64 b], .str false ⟨#[61, 61]⟩, .agg [.int true .i64 c, .int true .i64 d]] [] [.br false, .br true] = some ((True ∧ S.rEmpty a b = false) ∧ S.rEmpty c d = true, .agg [.int false .i64 1, .int false .i64 0], []) := by kernel_rfl
theorem S.RTeq_r2 (a b c d : Int) : run (envC prog imA 300 {} S.o_RTge) 22 [.agg [.int true .i64 a, .int true .i64 b], .str false ⟨#[61, 61]⟩, .agg [.int true .i64 c, .int true .i64 d]] [] [.br false, .br false] = some ((True ∧ S.rEmpty a b = false) ∧ S.rEmpty c d = false, .agg [.int true .i64 (S.rMeet_0 a b c d), .int true .i64 (S.rMeet_1 a b c d)], []) := by kernel_rfl
theorem S.RTeq_sim (a b c d : Int) : Sim prog 22 [.agg [.int true .i64 a, .int true .i64 b], .str true ⟨#[61, 61]⟩, .agg [.int true .i64 c, .int true .i64 d]] [] (.agg [.int true .i64 (S.RTeq_0 a b c d), .int true .i64 (S.RTeq_1 a b c d)]) [] := by
 refine Sim.args (args' := [.agg [.int true .i64 a, .int true .i64 b], .str false ⟨#[61, 61]⟩, .agg [.int true .i64 c, .int true .i64 d]]) ?_ (.cons (Says.refl _) (.cons (Says.str rfl) (.cons (Says.refl _) (.nil))))
 rcases Bool.eq_false_or_eq_true (S.rEmpty a b) with h0 | h0
 ·
  exact (sim_run (S.hE S.o_RTge_ok) (S.RTeq_r0 a b c d) ⟨trivial, h0⟩).says (Says.agg (.cons (Says.int (by simp only [S.RTeq_0, h0, cond_true, cond_false])) (.cons (Says.int (by simp only [S.RTeq_1, h0, cond_true, cond_false])) (.nil))))
 ·
  rcases Bool.eq_false_or_eq_true (S.rEmpty c d) with h1 | h1
  ·
   exact (sim_run (S.hE S.o_RTge_ok) (S.RTeq_r1 a b c d) ⟨⟨trivial, h0⟩, h1⟩).says (Says.agg (.cons (Says.int (by simp only [S.RTeq_0, h1, h0, cond_true, cond_false])) (.cons (Says.int (by simp only [S.RTeq_1, h1, h0, cond_true, cond_false])) (.nil))))
  ·
   exact (sim_run (S.hE S.o_RTge_ok) (S.RTeq_r2 a b c d) ⟨⟨trivial, h0⟩, h1⟩).says (Says.agg (.cons (Says.int (by simp only [S.RTeq_0, h1, h0, cond_true, cond_false])) (.cons (Says.int (by simp only [S.RTeq_1, h1, h0, cond_true, cond_false])) (.nil))))
def S.o_RTeq : Orc := orcAdd 22 (fun | [.agg [.int true .i64 a, .int true .i64 b], .str true t1, .agg [.int true .i64 c, .int true .i64 d]] => (match t1.data.toList == [61, 61] with | true => some (.agg [.int true .i64 (S.RTeq_0 a b c d), .int true .i64 (S.RTeq_1 a b c d)]) | false => none) | _ => none) S.o_RTge
theorem S.o_RTeq_ok : OrcOk prog S.o_RTeq := orcAdd_ok S.o_RTge_ok fun a v h => by
  try dsimp only at h
  split at h
  · rename_i a b t1 c d
    split at h
    · rename_i ht; cases h; have ht1 := ht; obtain rfl := ba_eq ht1; exact S.RTeq_sim a b c d
    · cases h
  · cases h
def S.RTne_0 (a b c d : Int) : Int := (bif S.rEmpty a b then (1) else (bif S.rEmpty c d then (1) else (bif c != d then (a) else (bif a == c && (b == d && true) then (1) else (bif a == c then (IntKind.wrap .i64 (a + 1)) else (a))))))
def S.RTne_1 (a b c d : Int) : Int := (bif S.rEmpty a b then (0) else (bif S.rEmpty c d then (0) else (bif c != d then (b) else (bif a == c && (b == d && true) then (0) else (bif a == c then (b) else (bif b == c then (IntKind.wrap .i64 (b - 1)) else (b)))))))
theorem S.RTne_r0 (a b c d : Int) : run (envC prog imA 300 {} S.o_RTeq) 22 [.agg [.int true .i64 a, .int true .i64 b], .str false ⟨#[33, 61]⟩, .agg [.int true .i64 c, .int true .i64 d]] [] [.br true] = some (True ∧ S.rEmpty a b = true, .agg [.int false .i64 1, .int false .i64 0], []) := by kernel_rfl
theorem S.RTne_r1 (a b c d : Int) : run (envC prog imA 300 {} S.o_RTeq) 22 [.agg [.int true .i64 a, .int true .i64 b], .str false ⟨#[33, 61]⟩, .agg [.int true .i64 c, .int true .i64 d]] [] [.br false, .br true] = some ((True ∧ S.rEmpty a b = false) ∧ S.rEmpty c d = true, .agg [.int false .i64 1, .int false .i64 0], []) := by kernel_rfl
theorem S.RTne_r2 (a b c d : Int) : run (envC prog imA 300 {} S.o_RTeq) 22 [.agg [.int true .i64 a, .int true .i64 b], .str false ⟨#[33, 61]⟩, .agg [.int true .i64 c, .int true .i64 d]] [] [.br false, .br false, .br true] = some (((True ∧ S.rEmpty a b = false) ∧ S.rEmpty c d = false) ∧ (c != d) = true, .agg [.int true .i64 a, .int true .i64 b], []) := by kernel_rfl
theorem S.RTne_r3 (a b c d : Int) : run (envC prog imA 300 {} S.o_RTeq) 22 [.agg [.int true .i64 a, .int true .i64 b], .str false ⟨#[33, 61]⟩, .agg [.int true .i64 c, .int true .i64 d]] [] [.br false, .br false, .br false, .br true] = some ((((True ∧ S.rEmpty a b = false) ∧ S.rEmpty c d = false) ∧ (c != d) = false) ∧ (a == c && (b == d && true)) = true, .agg [.int false .i64 1, .int false .i64 0], []) := by kernel_rfl
theorem S.RTne_r4 (a b c d : Int) : run (envC prog imA 300 {} S.o_RTeq) 22 [.agg [.int true .i64 a, .int true .i64 b], .str false ⟨#[33, 61]⟩, .agg [.int true .i64 c, .int true .i64 d]] [] [.br false, .br false, .br false, .br false, .br true] = some (((((True ∧ S.rEmpty a b = false) ∧ S.rEmpty c d = false) ∧ (c != d) = false) ∧ (a == c && (b == d && true)) = false) ∧ (a == c) = true, .agg [.int true .i64 (IntKind.wrap .i64 (a + 1)), .int true .i64 b], []) := by kernel_rfl
theorem S.RTne_r5 (a b c d : Int) : run (envC prog imA 300 {} S.o_RTeq) 22 [.agg [.int true .i64 a, .int true .i64 b], .str false ⟨#[33, 61]⟩, .agg [.int true .i64 c, .int true .i64 d]] [] [.br false, .br false, .br false, .br false, .br false, .br true] = some ((((((True ∧ S.rEmpty a b = false) ∧ S.rEmpty c d = false) ∧ (c != d) = false) ∧ (a == c && (b == d && true)) = false) ∧ (a == c) = false) ∧ (b == c) = true, .agg [.int true .i64 a, .int true .i64 (IntKind.wrap .i64 (b - 1))], []) := by kernel_rfl
theorem S.RTne_r6 (a b c d : Int) : run (envC prog imA 300 {} S.o_RTeq) 22 [.agg [.int true .i64 a, .int true .i64 b], .str false ⟨#[33, 61]⟩, .agg [.int true .i64 c, .int true .i64 d]] [] [.br false, .br false, .br false, .br false, .br false, .br false] = some ((((((True ∧ S.rEmpty a b = false) ∧ S.rEmpty c d = false) ∧ (c != d) = false) ∧ (a == c && (b == d && true)) = false) ∧ (a == c) = false) ∧ (b == c) = false, .agg [.int true .i64 a, .int true .i64 b], []) := by kernel_rfl
theorem S.RTne_sim (a b c d : Int) : Sim prog 22 [.agg [.int true .i64 a, .int true .i64 b], .str true ⟨#[33, 61]⟩, .agg [.int true .i64 c, .int true .i64 d]] [] (.agg [.int true .i64 (S.RTne_0 a b c d), .int true .i64 (S.RTne_1 a b c d)]) [] := by
 refine Sim.rng fun hrng => ?_
 try simp only [rngL, rngV, kLo, kHi] at hrng
 refine Sim.args (args' := [.agg [.int true .i64 a, .int true .i64 b], .str false ⟨#[33, 61]⟩, .agg [.int true .i64 c, .int true .i64 d]]) ?_ (.cons (Says.refl _) (.cons (Says.str rfl) (.cons (Says.refl _) (.nil))))
 rcases Bool.eq_false_or_eq_true (S.rEmpty a b) with h0 | h0
 ·
  exact (sim_run (S.hE S.o_RTeq_ok) (S.RTne_r0 a b c d) ⟨trivial, h0⟩).says (Says.agg (.cons (Says.int (by first | (simp only [S.RTne_0, h0, cond_true, cond_false]; done) | (simp only [S.RTne_0]; clear hrng; simp_all only [cond_true, cond_false]; done))) (.cons (Says.int (by first | (simp only [S.RTne_1, h0, cond_true, cond_false]; done) | (simp only [S.RTne_1]; clear hrng; simp_all only [cond_true, cond_false]; done))) (.nil))))
 ·
  rcases Bool.eq_false_or_eq_true (S.rEmpty c d) with h1 | h1
  ·
   exact (sim_run (S.hE S.o_RTeq_ok) (S.RTne_r1 a b c d) ⟨⟨trivial, h0⟩, h1⟩).says (Says.agg (.cons (Says.int (by first | (simp only [S.RTne_0, h1, h0, cond_true, cond_false]; done) | (simp only [S.RTne_0]; clear hrng; simp_all only [cond_true, cond_false]; done))) (.cons (Says.int (by first | (simp only [S.RTne_1, h1, h0, cond_true, cond_false]; done) | (simp only [S.RTne_1]; clear hrng; simp_all only [cond_true, cond_false]; done))) (.nil))))
  ·
   rcases Bool.eq_false_or_eq_true (c != d) with h2 | h2
   ·
    exact (sim_run (S.hE S.o_RTeq_ok) (S.RTne_r2 a b c d) ⟨⟨⟨trivial, h0⟩, h1⟩, h2⟩).says (Says.agg (.cons (Says.int (by first | (simp only [S.RTne_0, h2, h1, h0, cond_true, cond_false]; done) | (simp only [S.RTne_0]; clear hrng; simp_all only [cond_true, cond_false]; done))) (.cons (Says.int (by first | (simp only [S.RTne_1, h2, h1, h0, cond_true, cond_false]; done) | (simp only [S.RTne_1]; clear hrng; simp_all only [cond_true, cond_false]; done))) (.nil))))
   ·
    rcases Bool.eq_false_or_eq_true (a == c && (b == d && true)) with h3 | h3
    ·
     exact (sim_run (S.hE S.o_RTeq_ok) (S.RTne_r3 a b c d) ⟨⟨⟨⟨trivial, h0⟩, h1⟩, h2⟩, h3⟩).says (Says.agg (.cons (Says.int (by first | (simp only [S.RTne_0, h3, h2, h1, h0, cond_true, cond_false]; done) | (simp only [S.RTne_0]; clear hrng; simp_all only [cond_true, cond_false]; done))) (.cons (Says.int (by first | (simp only [S.RTne_1, h3, h2, h1, h0, cond_true, cond_false]; done) | (simp only [S.RTne_1]; clear hrng; simp_all only [cond_true, cond_false]; done))) (.nil))))
    ·
     rcases Bool.eq_false_or_eq_true (a == c) with h4 | h4
     ·
      exact (sim_run (S.hE S.o_RTeq_ok) (S.RTne_r4 a b c d) ⟨⟨⟨⟨⟨trivial, h0⟩, h1⟩, h2⟩, h3⟩, h4⟩).says (Says.agg (.cons (Says.int (by first | (simp only [S.RTne_0, h4, h3, h2, h1, h0, cond_true, cond_false]; done) | (simp only [S.RTne_0]; clear hrng; simp_all only [cond_true, cond_false]; done))) (.cons (Says.int (by first | (simp only [S.RTne_1, h4, h3, h2, h1, h0, cond_true, cond_false]; done) | (simp only [S.RTne_1]; clear hrng; simp_all only [cond_true, cond_false]; done))) (.nil))))
     ·
      rcases Bool.eq_false_or_eq_true (b == c) with h5 | h5
      ·
       exact (sim_run (S.hE S.o_RTeq_ok) (S.RTne_r5 a b c d) ⟨⟨⟨⟨⟨⟨trivial, h0⟩, h1⟩, h2⟩, h3⟩, h4⟩, h5⟩).says (Says.agg (.cons (Says.int (by first | (simp only [S.RTne_0, h5, h4, h3, h2, h1, h0, cond_true, cond_false]; done) | (simp only [S.RTne_0]; clear hrng; simp_all only [cond_true, cond_false]; done))) (.cons (Says.int (by first | (simp only [S.RTne_1, h5, h4, h3, h2, h1, h0, cond_true, cond_false]; done) | (simp only [S.RTne_1]; clear hrng; simp_all only [cond_true, cond_false]; done))) (.nil))))
      ·
       exact (sim_run (S.hE S.o_RTeq_ok) (S.RTne_r6 a b c d) ⟨⟨⟨⟨⟨⟨trivial, h0⟩, h1⟩, h2⟩, h3⟩, h4⟩, h5⟩).says (Says.agg (.cons (Says.int (by first | (simp only [S.RTne_0, h5, h4, h3, h2, h1, h0, cond_true, cond_false]; done) | (simp only [S.RTne_0]; clear hrng; simp_all only [cond_true, cond_false]; done))) (.cons (Says.int (by first | (simp only [S.RTne_1, h5, h4, h3, h2, h1, h0, cond_true, cond_false]; done) | (simp only [S.RTne_1]; clear hrng; simp_all only [cond_true, cond_false]; done))) (.nil))))
def S.o_RTne : Orc := orcAdd 22 (fun | [.agg [.int true .i64 a, .int true .i64 b], .str true t1, .agg [.int true .i64 c, .int true .i64 d]] => (match t1.data.toList == [33, 61] with | true => some (.agg [.int true .i64 (S.RTne_0 a b c d), .int true .i64 (S.RTne_1 a b c d)]) | false => none) | _ => none) S.o_RTeq
theorem S.o_RTne_ok : OrcOk prog S.o_RTne := orcAdd_ok S.o_RTeq_ok fun a v h => by
  try dsimp only at h
  split at h
  · rename_i a b t1 c d
    split at h
    · rename_i ht; cases h; have ht1 := ht; obtain rfl := ba_eq ht1; exact S.RTne_sim a b c d
    · cases h
  · cases h
