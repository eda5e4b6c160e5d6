import Derived.Test.YtobomgckeoomkaaSpRA
set_option linter.unusedVariables false
set_option linter.unusedSimpArgs false
set_option maxRecDepth 100000
open Go Go.Im Go.Proofs.Try
def S.far (a : Int) : Int := (bif decide (a < 0) then (IntKind.wrap .i64 (0 - IntKind.wrap .i64 (a + 1))) else (if false = true then if 0 < IntKind.wrap .i64 (a - 1) then 0 else IntKind.wrap .i64 (a - 1) else if 0 > IntKind.wrap .i64 (a - 1) then 0 else IntKind.wrap .i64 (a - 1)))
theorem S.far_r0 (a : Int) : run (envC prog imA 300 {} S.o_rBrem) 83 [.int true .i64 a] [] [.br true] = some (True ∧ decide (a < 0) = true, .int true .i64 (IntKind.wrap .i64 (0 - IntKind.wrap .i64 (a + 1))), []) := by kernel_rfl
theorem S.far_r1 (a : Int) : run (envC prog imA 300 {} S.o_rBrem) 83 [.int true .i64 a] [] [.br false] = some (True ∧ decide (a < 0) = false, .int true .i64 (if false = true then if 0 < IntKind.wrap .i64 (a - 1) then 0 else IntKind.wrap .i64 (a - 1) else if 0 > IntKind.wrap .i64 (a - 1) then 0 else IntKind.wrap .i64 (a - 1)), []) := by kernel_rfl
theorem S.far_sim (a : Int) : Sim prog 83 [.int true .i64 a] [] (.int true .i64 (S.far a)) [] := by
 rcases Bool.eq_false_or_eq_true (decide (a < 0)) with h0 | h0
 ·
  exact (sim_run (S.hE S.o_rBrem_ok) (S.far_r0 a) ⟨trivial, h0⟩).says (Says.int (by simp only [S.far, h0, cond_true, cond_false]))
 ·
  exact (sim_run (S.hE S.o_rBrem_ok) (S.far_r1 a) ⟨trivial, h0⟩).says (Says.int (by simp only [S.far, h0, cond_true, cond_false]))
def S.o_far : Orc := orcAdd 83 (fun | [.int true .i64 a] => some (.int true .i64 (S.far a)) | _ => none) S.o_rBrem
theorem S.o_far_ok : OrcOk prog S.o_far := orcAdd_ok S.o_rBrem_ok fun a v h => by
  try dsimp only at h
  split at h
  · rename_i a; cases h; exact S.far_sim a
  · cases h
def S.lvadd (a b : Int) : Bool := (!decide (S.rBadd_0 a b < a) == decide (b < 0))
theorem S.lvadd_r0 (a b : Int) : run (envC prog imA 300 {} S.o_far) 82 [.str false ⟨#[43]⟩, .int true .i64 a, .int true .i64 b] [] [] = some (True, .bool true !decide (S.rBadd_0 a b < a) == decide (b < 0), []) := by kernel_rfl
theorem S.lvadd_sim (a b : Int) : Sim prog 82 [.str true ⟨#[43]⟩, .int true .i64 a, .int true .i64 b] [] (.bool true (S.lvadd a b)) [] := by
 refine Sim.args (args' := [.str false ⟨#[43]⟩, .int true .i64 a, .int true .i64 b]) ?_ (.cons (Says.str rfl) (.cons (Says.refl _) (.cons (Says.refl _) (.nil))))
 exact (sim_run (S.hE S.o_far_ok) (S.lvadd_r0 a b) trivial).says (Says.bool (rfl))
def S.o_lvadd : Orc := orcAdd 82 (fun | [.str true t0, .int true .i64 a, .int true .i64 b] => (match t0.data.toList == [43] with | true => some (.bool true (S.lvadd a b)) | false => none) | _ => none) S.o_far
theorem S.o_lvadd_ok : OrcOk prog S.o_lvadd := orcAdd_ok S.o_far_ok fun a v h => by
  try dsimp only at h
  split at h
  · rename_i t0 a b
    split at h
    · rename_i ht; cases h; have ht0 := ht; obtain rfl := ba_eq ht0; exact S.lvadd_sim a b
    · cases h
  · cases h
def S.lvsub (a b : Int) : Bool := (!decide (S.rBsub_0 a b > a) == decide (b < 0))
theorem S.lvsub_r0 (a b : Int) : run (envC prog imA 300 {} S.o_lvadd) 82 [.str false ⟨#[45]⟩, .int true .i64 a, .int true .i64 b] [] [] = some (True, .bool true !decide (S.rBsub_0 a b > a) == decide (b < 0), []) := by kernel_rfl
theorem S.lvsub_sim (a b : Int) : Sim prog 82 [.str true ⟨#[45]⟩, .int true .i64 a, .int true .i64 b] [] (.bool true (S.lvsub a b)) [] := by
 refine Sim.args (args' := [.str false ⟨#[45]⟩, .int true .i64 a, .int true .i64 b]) ?_ (.cons (Says.str rfl) (.cons (Says.refl _) (.cons (Says.refl _) (.nil))))
 exact (sim_run (S.hE S.o_lvadd_ok) (S.lvsub_r0 a b) trivial).says (Says.bool (rfl))
def S.o_lvsub : Orc := orcAdd 82 (fun | [.str true t0, .int true .i64 a, .int true .i64 b] => (match t0.data.toList == [45] with | true => some (.bool true (S.lvsub a b)) | false => none) | _ => none) S.o_lvadd
theorem S.o_lvsub_ok : OrcOk prog S.o_lvsub := orcAdd_ok S.o_lvadd_ok fun a v h => by
  try dsimp only at h
  split at h
  · rename_i t0 a b
    split at h
    · rename_i ht; cases h; have ht0 := ht; obtain rfl := ba_eq ht0; exact S.lvsub_sim a b
    · cases h
  · cases h
def S.lvmul (a b : Int) : Bool := (bif a == 0 then (false) else (bif b == 0 then (false) else (bif a == -1 then (bif a == -9223372036854775808 then (true) else (b == -9223372036854775808)) else (bif b == -1 then (bif a == -9223372036854775808 then (true) else (b == -9223372036854775808)) else (bif IntKind.wrap .i64 (Int.tdiv (S.rBmul_0 a b) b) != a then (true) else (bif a == -9223372036854775808 then (bif b != 1 then (true) else (bif b == -9223372036854775808 then (a != 1) else (false))) else (bif b == -9223372036854775808 then (a != 1) else (false))))))))
theorem S.lvmul_r0 (a b : Int) : run (envC prog imA 300 {} S.o_lvsub) 82 [.str false ⟨#[42]⟩, .int true .i64 a, .int true .i64 b] [] [.br true] = some (True ∧ (a == 0) = true, .bool false false, []) := by kernel_rfl
theorem S.lvmul_r1 (a b : Int) : run (envC prog imA 300 {} S.o_lvsub) 82 [.str false ⟨#[42]⟩, .int true .i64 a, .int true .i64 b] [] [.br false, .br true] = some ((True ∧ (a == 0) = false) ∧ (b == 0) = true, .bool false false, []) := by kernel_rfl
theorem S.lvmul_r2 (a b : Int) : run (envC prog imA 300 {} S.o_lvsub) 82 [.str false ⟨#[42]⟩, .int true .i64 a, .int true .i64 b] [] [.br false, .br false, .br true, .br true] = some ((((True ∧ (a == 0) = false) ∧ (b == 0) = false) ∧ (a == -1) = true) ∧ (a == -9223372036854775808) = true, .bool false true, []) := by kernel_rfl
theorem S.lvmul_r3 (a b : Int) : run (envC prog imA 300 {} S.o_lvsub) 82 [.str false ⟨#[42]⟩, .int true .i64 a, .int true .i64 b] [] [.br false, .br false, .br false, .br true, .br true] = some (((((True ∧ (a == 0) = false) ∧ (b == 0) = false) ∧ (a == -1) = false) ∧ (b == -1) = true) ∧ (a == -9223372036854775808) = true, .bool false true, []) := by kernel_rfl
theorem S.lvmul_r4 (a b : Int) : run (envC prog imA 300 {} S.o_lvsub) 82 [.str false ⟨#[42]⟩, .int true .i64 a, .int true .i64 b] [] [.br false, .br false, .br false, .br false, .br true, .br true] = some ((((((True ∧ (a == 0) = false) ∧ (b == 0) = false) ∧ (a == -1) = false) ∧ (b == -1) = false) ∧ (b != 0) = true) ∧ (IntKind.wrap .i64 (Int.tdiv (S.rBmul_0 a b) b) != a) = true, .bool false true, []) := by kernel_rfl
theorem S.lvmul_r5 (a b : Int) : run (envC prog imA 300 {} S.o_lvsub) 82 [.str false ⟨#[42]⟩, .int true .i64 a, .int true .i64 b] [] [.br false, .br false, .br false, .br false, .br true, .br false, .br true, .br true] = some ((((((((True ∧ (a == 0) = false) ∧ (b == 0) = false) ∧ (a == -1) = false) ∧ (b == -1) = false) ∧ (b != 0) = true) ∧ (IntKind.wrap .i64 (Int.tdiv (S.rBmul_0 a b) b) != a) = false) ∧ (a == -9223372036854775808) = true) ∧ (b != 1) = true, .bool false true, []) := by kernel_rfl
theorem S.lvmul_r6 (a b : Int) : run (envC prog imA 300 {} S.o_lvsub) 82 [.str false ⟨#[42]⟩, .int true .i64 a, .int true .i64 b] [] [.br false, .br false, .br false, .br false, .br true, .br false, .br false, .br true] = some ((((((((True ∧ (a == 0) = false) ∧ (b == 0) = false) ∧ (a == -1) = false) ∧ (b == -1) = false) ∧ (b != 0) = true) ∧ (IntKind.wrap .i64 (Int.tdiv (S.rBmul_0 a b) b) != a) = false) ∧ (a == -9223372036854775808) = false) ∧ (b == -9223372036854775808) = true, .bool true (a != 1), []) := by kernel_rfl
theorem S.lvmul_r7 (a b : Int) : run (envC prog imA 300 {} S.o_lvsub) 82 [.str false ⟨#[42]⟩, .int true .i64 a, .int true .i64 b] [] [.br false, .br false, .br false, .br false, .br true, .br false, .br false, .br false] = some ((((((((True ∧ (a == 0) = false) ∧ (b == 0) = false) ∧ (a == -1) = false) ∧ (b == -1) = false) ∧ (b != 0) = true) ∧ (IntKind.wrap .i64 (Int.tdiv (S.rBmul_0 a b) b) != a) = false) ∧ (a == -9223372036854775808) = false) ∧ (b == -9223372036854775808) = false, .bool false false, []) := by kernel_rfl
theorem S.lvmul_r8 (a b : Int) : run (envC prog imA 300 {} S.o_lvsub) 82 [.str false ⟨#[42]⟩, .int true .i64 a, .int true .i64 b] [] [.br false, .br false, .br false, .br false, .br true, .br false, .br true, .br false, .br true] = some (((((((((True ∧ (a == 0) = false) ∧ (b == 0) = false) ∧ (a == -1) = false) ∧ (b == -1) = false) ∧ (b != 0) = true) ∧ (IntKind.wrap .i64 (Int.tdiv (S.rBmul_0 a b) b) != a) = false) ∧ (a == -9223372036854775808) = true) ∧ (b != 1) = false) ∧ (b == -9223372036854775808) = true, .bool true (a != 1), []) := by kernel_rfl
theorem S.lvmul_r9 (a b : Int) : run (envC prog imA 300 {} S.o_lvsub) 82 [.str false ⟨#[42]⟩, .int true .i64 a, .int true .i64 b] [] [.br false, .br false, .br false, .br false, .br true, .br false, .br true, .br false, .br false] = some (((((((((True ∧ (a == 0) = false) ∧ (b == 0) = false) ∧ (a == -1) = false) ∧ (b == -1) = false) ∧ (b != 0) = true) ∧ (IntKind.wrap .i64 (Int.tdiv (S.rBmul_0 a b) b) != a) = false) ∧ (a == -9223372036854775808) = true) ∧ (b != 1) = false) ∧ (b == -9223372036854775808) = false, .bool false false, []) := by kernel_rfl
theorem S.lvmul_r10 (a b : Int) : run (envC prog imA 300 {} S.o_lvsub) 82 [.str false ⟨#[42]⟩, .int true .i64 a, .int true .i64 b] [] [.br false, .br false, .br false, .br true, .br false] = some (((((True ∧ (a == 0) = false) ∧ (b == 0) = false) ∧ (a == -1) = false) ∧ (b == -1) = true) ∧ (a == -9223372036854775808) = false, .bool true (b == -9223372036854775808), []) := by kernel_rfl
theorem S.lvmul_r11 (a b : Int) : run (envC prog imA 300 {} S.o_lvsub) 82 [.str false ⟨#[42]⟩, .int true .i64 a, .int true .i64 b] [] [.br false, .br false, .br true, .br false] = some ((((True ∧ (a == 0) = false) ∧ (b == 0) = false) ∧ (a == -1) = true) ∧ (a == -9223372036854775808) = false, .bool true (b == -9223372036854775808), []) := by kernel_rfl
theorem S.lvmul_sim (a b : Int) : Sim prog 82 [.str true ⟨#[42]⟩, .int true .i64 a, .int true .i64 b] [] (.bool true (S.lvmul a b)) [] := by
 refine Sim.args (args' := [.str false ⟨#[42]⟩, .int true .i64 a, .int true .i64 b]) ?_ (.cons (Says.str rfl) (.cons (Says.refl _) (.cons (Says.refl _) (.nil))))
 rcases Bool.eq_false_or_eq_true (a == 0) with h0 | h0
 ·
  exact (sim_run (S.hE S.o_lvsub_ok) (S.lvmul_r0 a b) ⟨trivial, h0⟩).says (Says.bool (by simp only [S.lvmul, h0, cond_true, cond_false]))
 ·
  rcases Bool.eq_false_or_eq_true (b == 0) with h1 | h1
  ·
   exact (sim_run (S.hE S.o_lvsub_ok) (S.lvmul_r1 a b) ⟨⟨trivial, h0⟩, h1⟩).says (Says.bool (by simp only [S.lvmul, h1, h0, cond_true, cond_false]))
  ·
   rcases Bool.eq_false_or_eq_true (a == -1) with h2 | h2
   ·
    rcases Bool.eq_false_or_eq_true (a == -9223372036854775808) with h3 | h3
    ·
     exact (sim_run (S.hE S.o_lvsub_ok) (S.lvmul_r2 a b) ⟨⟨⟨⟨trivial, h0⟩, h1⟩, h2⟩, h3⟩).says (Says.bool (by simp only [S.lvmul, h3, h2, h1, h0, cond_true, cond_false]))
    ·
     exact (sim_run (S.hE S.o_lvsub_ok) (S.lvmul_r11 a b) ⟨⟨⟨⟨trivial, h0⟩, h1⟩, h2⟩, h3⟩).says (Says.bool (by simp only [S.lvmul, h3, h2, h1, h0, cond_true, cond_false]))
   ·
    rcases Bool.eq_false_or_eq_true (b == -1) with h3 | h3
    ·
     rcases Bool.eq_false_or_eq_true (a == -9223372036854775808) with h4 | h4
     ·
      exact (sim_run (S.hE S.o_lvsub_ok) (S.lvmul_r3 a b) ⟨⟨⟨⟨⟨trivial, h0⟩, h1⟩, h2⟩, h3⟩, h4⟩).says (Says.bool (by simp only [S.lvmul, h4, h3, h2, h1, h0, cond_true, cond_false]))
     ·
      exact (sim_run (S.hE S.o_lvsub_ok) (S.lvmul_r10 a b) ⟨⟨⟨⟨⟨trivial, h0⟩, h1⟩, h2⟩, h3⟩, h4⟩).says (Says.bool (by simp only [S.lvmul, h4, h3, h2, h1, h0, cond_true, cond_false]))
    ·
     rcases Bool.eq_false_or_eq_true (b != 0) with h4 | h4
     ·
      rcases Bool.eq_false_or_eq_true (IntKind.wrap .i64 (Int.tdiv (S.rBmul_0 a b) b) != a) with h5 | h5
      ·
       exact (sim_run (S.hE S.o_lvsub_ok) (S.lvmul_r4 a b) ⟨⟨⟨⟨⟨⟨trivial, h0⟩, h1⟩, h2⟩, h3⟩, h4⟩, h5⟩).says (Says.bool (by simp only [S.lvmul, h5, h4, h3, h2, h1, h0, cond_true, cond_false]))
      ·
       rcases Bool.eq_false_or_eq_true (a == -9223372036854775808) with h6 | h6
       ·
        rcases Bool.eq_false_or_eq_true (b != 1) with h7 | h7
        ·
         exact (sim_run (S.hE S.o_lvsub_ok) (S.lvmul_r5 a b) ⟨⟨⟨⟨⟨⟨⟨⟨trivial, h0⟩, h1⟩, h2⟩, h3⟩, h4⟩, h5⟩, h6⟩, h7⟩).says (Says.bool (by simp only [S.lvmul, h7, h6, h5, h4, h3, h2, h1, h0, cond_true, cond_false]))
        ·
         rcases Bool.eq_false_or_eq_true (b == -9223372036854775808) with h8 | h8
         ·
          exact (sim_run (S.hE S.o_lvsub_ok) (S.lvmul_r8 a b) ⟨⟨⟨⟨⟨⟨⟨⟨⟨trivial, h0⟩, h1⟩, h2⟩, h3⟩, h4⟩, h5⟩, h6⟩, h7⟩, h8⟩).says (Says.bool (by simp only [S.lvmul, h8, h7, h6, h5, h4, h3, h2, h1, h0, cond_true, cond_false]))
         ·
          exact (sim_run (S.hE S.o_lvsub_ok) (S.lvmul_r9 a b) ⟨⟨⟨⟨⟨⟨⟨⟨⟨trivial, h0⟩, h1⟩, h2⟩, h3⟩, h4⟩, h5⟩, h6⟩, h7⟩, h8⟩).says (Says.bool (by simp only [S.lvmul, h8, h7, h6, h5, h4, h3, h2, h1, h0, cond_true, cond_false]))
       ·
        rcases Bool.eq_false_or_eq_true (b == -9223372036854775808) with h7 | h7
        ·
         exact (sim_run (S.hE S.o_lvsub_ok) (S.lvmul_r6 a b) ⟨⟨⟨⟨⟨⟨⟨⟨trivial, h0⟩, h1⟩, h2⟩, h3⟩, h4⟩, h5⟩, h6⟩, h7⟩).says (Says.bool (by simp only [S.lvmul, h7, h6, h5, h4, h3, h2, h1, h0, cond_true, cond_false]))
        ·
         exact (sim_run (S.hE S.o_lvsub_ok) (S.lvmul_r7 a b) ⟨⟨⟨⟨⟨⟨⟨⟨trivial, h0⟩, h1⟩, h2⟩, h3⟩, h4⟩, h5⟩, h6⟩, h7⟩).says (Says.bool (by simp only [S.lvmul, h7, h6, h5, h4, h3, h2, h1, h0, cond_true, cond_false]))
     ·
      exfalso; first | (rw [S.u64_nonneg] at h4; cases h4) | (simp_all only [bne, Bool.not_false, Bool.not_true]; done) | (simp only [bne, Bool.not_false, Bool.not_true] at * <;> simp_all)
def S.o_lvmul : Orc := orcAdd 82 (fun | [.str true t0, .int true .i64 a, .int true .i64 b] => (match t0.data.toList == [42] with | true => some (.bool true (S.lvmul a b)) | false => none) | _ => none) S.o_lvsub
theorem S.o_lvmul_ok : OrcOk prog S.o_lvmul := orcAdd_ok S.o_lvsub_ok fun a v h => by
  try dsimp only at h
  split at h
  · rename_i t0 a b
    split at h
    · rename_i ht; cases h; have ht0 := ht; obtain rfl := ba_eq ht0; exact S.lvmul_sim a b
    · cases h
  · cases h
def S.wiadd (a b c d : Int) : Bool := (bif !S.lvadd a c then (bif !S.lvadd a d then (bif !S.lvadd b c then (!S.lvadd b d) else (false)) else (false)) else (false))
theorem S.wiadd_r0 (a b c d : Int) : run (envC prog imA 300 {} S.o_lvmul) 59 [.str false ⟨#[43]⟩, .agg [.int true .i64 a, .int true .i64 b], .agg [.int true .i64 c, .int true .i64 d]] [] [.br true, .br true, .br true] = some (((True ∧ (!S.lvadd a c) = true) ∧ (!S.lvadd a d) = true) ∧ (!S.lvadd b c) = true, .bool true !S.lvadd b d, []) := by kernel_rfl
theorem S.wiadd_r1 (a b c d : Int) : run (envC prog imA 300 {} S.o_lvmul) 59 [.str false ⟨#[43]⟩, .agg [.int true .i64 a, .int true .i64 b], .agg [.int true .i64 c, .int true .i64 d]] [] [.br false] = some (True ∧ (!S.lvadd a c) = false, .bool false false, []) := by kernel_rfl
theorem S.wiadd_r2 (a b c d : Int) : run (envC prog imA 300 {} S.o_lvmul) 59 [.str false ⟨#[43]⟩, .agg [.int true .i64 a, .int true .i64 b], .agg [.int true .i64 c, .int true .i64 d]] [] [.br true, .br false] = some ((True ∧ (!S.lvadd a c) = true) ∧ (!S.lvadd a d) = false, .bool false false, []) := by kernel_rfl
theorem S.wiadd_r3 (a b c d : Int) : run (envC prog imA 300 {} S.o_lvmul) 59 [.str false ⟨#[43]⟩, .agg [.int true .i64 a, .int true .i64 b], .agg [.int true .i64 c, .int true .i64 d]] [] [.br true, .br true, .br false] = some (((True ∧ (!S.lvadd a c) = true) ∧ (!S.lvadd a d) = true) ∧ (!S.lvadd b c) = false, .bool false false, []) := by kernel_rfl
theorem S.wiadd_sim (a b c d : Int) : Sim prog 59 [.str true ⟨#[43]⟩, .agg [.int true .i64 a, .int true .i64 b], .agg [.int true .i64 c, .int true .i64 d]] [] (.bool true (S.wiadd a b c d)) [] := by
 refine Sim.args (args' := [.str false ⟨#[43]⟩, .agg [.int true .i64 a, .int true .i64 b], .agg [.int true .i64 c, .int true .i64 d]]) ?_ (.cons (Says.str rfl) (.cons (Says.refl _) (.cons (Says.refl _) (.nil))))
 rcases Bool.eq_false_or_eq_true (!S.lvadd a c) with h0 | h0
 ·
  rcases Bool.eq_false_or_eq_true (!S.lvadd a d) with h1 | h1
  ·
   rcases Bool.eq_false_or_eq_true (!S.lvadd b c) with h2 | h2
   ·
    exact (sim_run (S.hE S.o_lvmul_ok) (S.wiadd_r0 a b c d) ⟨⟨⟨trivial, h0⟩, h1⟩, h2⟩).says (Says.bool (by simp only [S.wiadd, h2, h1, h0, cond_true, cond_false]))
   ·
    exact (sim_run (S.hE S.o_lvmul_ok) (S.wiadd_r3 a b c d) ⟨⟨⟨trivial, h0⟩, h1⟩, h2⟩).says (Says.bool (by simp only [S.wiadd, h2, h1, h0, cond_true, cond_false]))
  ·
   exact (sim_run (S.hE S.o_lvmul_ok) (S.wiadd_r2 a b c d) ⟨⟨trivial, h0⟩, h1⟩).says (Says.bool (by simp only [S.wiadd, h1, h0, cond_true, cond_false]))
 ·
  exact (sim_run (S.hE S.o_lvmul_ok) (S.wiadd_r1 a b c d) ⟨trivial, h0⟩).says (Says.bool (by simp only [S.wiadd, h0, cond_true, cond_false]))
def S.o_wiadd : Orc := orcAdd 59 (fun | [.str true t0, .agg [.int true .i64 a, .int true .i64 b], .agg [.int true .i64 c, .int true .i64 d]] => (match t0.data.toList == [43] with | true => some (.bool true (S.wiadd a b c d)) | false => none) | _ => none) S.o_lvmul
theorem S.o_wiadd_ok : OrcOk prog S.o_wiadd := orcAdd_ok S.o_lvmul_ok fun a v h => by
  try dsimp only at h
  split at h
  · rename_i t0 a b c d
    split at h
    · rename_i ht; cases h; have ht0 := ht; obtain rfl := ba_eq ht0; exact S.wiadd_sim a b c d
    · cases h
  · cases h
def S.wisub (a b c d : Int) : Bool := (bif !S.lvsub a c then (bif !S.lvsub a d then (bif !S.lvsub b c then (!S.lvsub b d) else (false)) else (false)) else (false))
theorem S.wisub_r0 (a b c d : Int) : run (envC prog imA 300 {} S.o_wiadd) 59 [.str false ⟨#[45]⟩, .agg [.int true .i64 a, .int true .i64 b], .agg [.int true .i64 c, .int true .i64 d]] [] [.br true, .br true, .br true] = some (((True ∧ (!S.lvsub a c) = true) ∧ (!S.lvsub a d) = true) ∧ (!S.lvsub b c) = true, .bool true !S.lvsub b d, []) := by kernel_rfl
theorem S.wisub_r1 (a b c d : Int) : run (envC prog imA 300 {} S.o_wiadd) 59 [.str false ⟨#[45]⟩, .agg [.int true .i64 a, .int true .i64 b], .agg [.int true .i64 c, .int true .i64 d]] [] [.br false] = some (True ∧ (!S.lvsub a c) = false, .bool false false, []) := by kernel_rfl
theorem S.wisub_r2 (a b c d : Int) : run (envC prog imA 300 {} S.o_wiadd) 59 [.str false ⟨#[45]⟩, .agg [.int true .i64 a, .int true .i64 b], .agg [.int true .i64 c, .int true .i64 d]] [] [.br true, .br false] = some ((True ∧ (!S.lvsub a c) = true) ∧ (!S.lvsub a d) = false, .bool false false, []) := by kernel_rfl
theorem S.wisub_r3 (a b c d : Int) : run (envC prog imA 300 {} S.o_wiadd) 59 [.str false ⟨#[45]⟩, .agg [.int true .i64 a, .int true .i64 b], .agg [.int true .i64 c, .int true .i64 d]] [] [.br true, .br true, .br false] = some (((True ∧ (!S.lvsub a c) = true) ∧ (!S.lvsub a d) = true) ∧ (!S.lvsub b c) = false, .bool false false, []) := by kernel_rfl
theorem S.wisub_sim (a b c d : Int) : Sim prog 59 [.str true ⟨#[45]⟩, .agg [.int true .i64 a, .int true .i64 b], .agg [.int true .i64 c, .int true .i64 d]] [] (.bool true (S.wisub a b c d)) [] := by
 refine Sim.args (args' := [.str false ⟨#[45]⟩, .agg [.int true .i64 a, .int true .i64 b], .agg [.int true .i64 c, .int true .i64 d]]) ?_ (.cons (Says.str rfl) (.cons (Says.refl _) (.cons (Says.refl _) (.nil))))
 rcases Bool.eq_false_or_eq_true (!S.lvsub a c) with h0 | h0
 ·
  rcases Bool.eq_false_or_eq_true (!S.lvsub a d) with h1 | h1
  ·
   rcases Bool.eq_false_or_eq_true (!S.lvsub b c) with h2 | h2
   ·
    exact (sim_run (S.hE S.o_wiadd_ok) (S.wisub_r0 a b c d) ⟨⟨⟨trivial, h0⟩, h1⟩, h2⟩).says (Says.bool (by simp only [S.wisub, h2, h1, h0, cond_true, cond_false]))
   ·
    exact (sim_run (S.hE S.o_wiadd_ok) (S.wisub_r3 a b c d) ⟨⟨⟨trivial, h0⟩, h1⟩, h2⟩).says (Says.bool (by simp only [S.wisub, h2, h1, h0, cond_true, cond_false]))
  ·
   exact (sim_run (S.hE S.o_wiadd_ok) (S.wisub_r2 a b c d) ⟨⟨trivial, h0⟩, h1⟩).says (Says.bool (by simp only [S.wisub, h1, h0, cond_true, cond_false]))
 ·
  exact (sim_run (S.hE S.o_wiadd_ok) (S.wisub_r1 a b c d) ⟨trivial, h0⟩).says (Says.bool (by simp only [S.wisub, h0, cond_true, cond_false]))
def S.o_wisub : Orc := orcAdd 59 (fun | [.str true t0, .agg [.int true .i64 a, .int true .i64 b], .agg [.int true .i64 c, .int true .i64 d]] => (match t0.data.toList == [45] with | true => some (.bool true (S.wisub a b c d)) | false => none) | _ => none) S.o_wiadd
theorem S.o_wisub_ok : OrcOk prog S.o_wisub := orcAdd_ok S.o_wiadd_ok fun a v h => by
  try dsimp only at h
  split at h
  · rename_i t0 a b c d
    split at h
    · rename_i ht; cases h; have ht0 := ht; obtain rfl := ba_eq ht0; exact S.wisub_sim a b c d
    · cases h
  · cases h
def S.wimul (a b c d : Int) : Bool := (bif !S.lvmul a c then (bif !S.lvmul a d then (bif !S.lvmul b c then (!S.lvmul b d) else (false)) else (false)) else (false))
theorem S.wimul_r0 (a b c d : Int) : run (envC prog imA 300 {} S.o_wisub) 59 [.str false ⟨#[42]⟩, .agg [.int true .i64 a, .int true .i64 b], .agg [.int true .i64 c, .int true .i64 d]] [] [.br true, .br true, .br true] = some (((True ∧ (!S.lvmul a c) = true) ∧ (!S.lvmul a d) = true) ∧ (!S.lvmul b c) = true, .bool true !S.lvmul b d, []) := by kernel_rfl
theorem S.wimul_r1 (a b c d : Int) : run (envC prog imA 300 {} S.o_wisub) 59 [.str false ⟨#[42]⟩, .agg [.int true .i64 a, .int true .i64 b], .agg [.int true .i64 c, .int true .i64 d]] [] [.br false] = some (True ∧ (!S.lvmul a c) = false, .bool false false, []) := by kernel_rfl
theorem S.wimul_r2 (a b c d : Int) : run (envC prog imA 300 {} S.o_wisub) 59 [.str false ⟨#[42]⟩, .agg [.int true .i64 a, .int true .i64 b], .agg [.int true .i64 c, .int true .i64 d]] [] [.br true, .br false] = some ((True ∧ (!S.lvmul a c) = true) ∧ (!S.lvmul a d) = false, .bool false false, []) := by kernel_rfl
theorem S.wimul_r3 (a b c d : Int) : run (envC prog imA 300 {} S.o_wisub) 59 [.str false ⟨#[42]⟩, .agg [.int true .i64 a, .int true .i64 b], .agg [.int true .i64 c, .int true .i64 d]] [] [.br true, .br true, .br false] = some (((True ∧ (!S.lvmul a c) = true) ∧ (!S.lvmul a d) = true) ∧ (!S.lvmul b c) = false, .bool false false, []) := by kernel_rfl
theorem S.wimul_sim (a b c d : Int) : Sim prog 59 [.str true ⟨#[42]⟩, .agg [.int true .i64 a, .int true .i64 b], .agg [.int true .i64 c, .int true .i64 d]] [] (.bool true (S.wimul a b c d)) [] := by
 refine Sim.args (args' := [.str false ⟨#[42]⟩, .agg [.int true .i64 a, .int true .i64 b], .agg [.int true .i64 c, .int true .i64 d]]) ?_ (.cons (Says.str rfl) (.cons (Says.refl _) (.cons (Says.refl _) (.nil))))
 rcases Bool.eq_false_or_eq_true (!S.lvmul a c) with h0 | h0
 ·
  rcases Bool.eq_false_or_eq_true (!S.lvmul a d) with h1 | h1
  ·
   rcases Bool.eq_false_or_eq_true (!S.lvmul b c) with h2 | h2
   ·
    exact (sim_run (S.hE S.o_wisub_ok) (S.wimul_r0 a b c d) ⟨⟨⟨trivial, h0⟩, h1⟩, h2⟩).says (Says.bool (by simp only [S.wimul, h2, h1, h0, cond_true, cond_false]))
   ·
    exact (sim_run (S.hE S.o_wisub_ok) (S.wimul_r3 a b c d) ⟨⟨⟨trivial, h0⟩, h1⟩, h2⟩).says (Says.bool (by simp only [S.wimul, h2, h1, h0, cond_true, cond_false]))
  ·
   exact (sim_run (S.hE S.o_wisub_ok) (S.wimul_r2 a b c d) ⟨⟨trivial, h0⟩, h1⟩).says (Says.bool (by simp only [S.wimul, h1, h0, cond_true, cond_false]))
 ·
  exact (sim_run (S.hE S.o_wisub_ok) (S.wimul_r1 a b c d) ⟨trivial, h0⟩).says (Says.bool (by simp only [S.wimul, h0, cond_true, cond_false]))
def S.o_wimul : Orc := orcAdd 59 (fun | [.str true t0, .agg [.int true .i64 a, .int true .i64 b], .agg [.int true .i64 c, .int true .i64 d]] => (match t0.data.toList == [42] with | true => some (.bool true (S.wimul a b c d)) | false => none) | _ => none) S.o_wisub
theorem S.o_wimul_ok : OrcOk prog S.o_wimul := orcAdd_ok S.o_wisub_ok fun a v h => by
  try dsimp only at h
  split at h
  · rename_i t0 a b c d
    split at h
    · rename_i ht; cases h; have ht0 := ht; obtain rfl := ba_eq ht0; exact S.wimul_sim a b c d
    · cases h
  · cases h
def S.readd_0 (a b c d : Int) : Int := (S.rJoin_0 (S.rJoin_0 (S.rJoin_0 (S.rJoin_0 1 0 (S.rBadd_0 a c) (S.rBadd_0 a c)) (S.rJoin_1 1 0 (S.rBadd_0 a c) (S.rBadd_0 a c)) (S.rBadd_0 a d) (S.rBadd_0 a d)) (S.rJoin_1 (S.rJoin_0 1 0 (S.rBadd_0 a c) (S.rBadd_0 a c)) (S.rJoin_1 1 0 (S.rBadd_0 a c) (S.rBadd_0 a c)) (S.rBadd_0 a d) (S.rBadd_0 a d)) (S.rBadd_0 b c) (S.rBadd_0 b c)) (S.rJoin_1 (S.rJoin_0 (S.rJoin_0 1 0 (S.rBadd_0 a c) (S.rBadd_0 a c)) (S.rJoin_1 1 0 (S.rBadd_0 a c) (S.rBadd_0 a c)) (S.rBadd_0 a d) (S.rBadd_0 a d)) (S.rJoin_1 (S.rJoin_0 1 0 (S.rBadd_0 a c) (S.rBadd_0 a c)) (S.rJoin_1 1 0 (S.rBadd_0 a c) (S.rBadd_0 a c)) (S.rBadd_0 a d) (S.rBadd_0 a d)) (S.rBadd_0 b c) (S.rBadd_0 b c)) (S.rBadd_0 b d) (S.rBadd_0 b d))
def S.readd_1 (a b c d : Int) : Int := (S.rJoin_1 (S.rJoin_0 (S.rJoin_0 (S.rJoin_0 1 0 (S.rBadd_0 a c) (S.rBadd_0 a c)) (S.rJoin_1 1 0 (S.rBadd_0 a c) (S.rBadd_0 a c)) (S.rBadd_0 a d) (S.rBadd_0 a d)) (S.rJoin_1 (S.rJoin_0 1 0 (S.rBadd_0 a c) (S.rBadd_0 a c)) (S.rJoin_1 1 0 (S.rBadd_0 a c) (S.rBadd_0 a c)) (S.rBadd_0 a d) (S.rBadd_0 a d)) (S.rBadd_0 b c) (S.rBadd_0 b c)) (S.rJoin_1 (S.rJoin_0 (S.rJoin_0 1 0 (S.rBadd_0 a c) (S.rBadd_0 a c)) (S.rJoin_1 1 0 (S.rBadd_0 a c) (S.rBadd_0 a c)) (S.rBadd_0 a d) (S.rBadd_0 a d)) (S.rJoin_1 (S.rJoin_0 1 0 (S.rBadd_0 a c) (S.rBadd_0 a c)) (S.rJoin_1 1 0 (S.rBadd_0 a c) (S.rBadd_0 a c)) (S.rBadd_0 a d) (S.rBadd_0 a d)) (S.rBadd_0 b c) (S.rBadd_0 b c)) (S.rBadd_0 b d) (S.rBadd_0 b d))
theorem S.readd_r0 (a b c d : Int) : run (envC prog imA 300 {} S.o_wimul) 61 [.str false ⟨#[43]⟩, .agg [.int true .i64 a, .int true .i64 b], .agg [.int true .i64 c, .int true .i64 d]] [] [] = some (True, .agg [.int true .i64 (S.rJoin_0 (S.rJoin_0 (S.rJoin_0 (S.rJoin_0 1 0 (S.rBadd_0 a c) (S.rBadd_0 a c)) (S.rJoin_1 1 0 (S.rBadd_0 a c) (S.rBadd_0 a c)) (S.rBadd_0 a d) (S.rBadd_0 a d)) (S.rJoin_1 (S.rJoin_0 1 0 (S.rBadd_0 a c) (S.rBadd_0 a c)) (S.rJoin_1 1 0 (S.rBadd_0 a c) (S.rBadd_0 a c)) (S.rBadd_0 a d) (S.rBadd_0 a d)) (S.rBadd_0 b c) (S.rBadd_0 b c)) (S.rJoin_1 (S.rJoin_0 (S.rJoin_0 1 0 (S.rBadd_0 a c) (S.rBadd_0 a c)) (S.rJoin_1 1 0 (S.rBadd_0 a c) (S.rBadd_0 a c)) (S.rBadd_0 a d) (S.rBadd_0 a d)) (S.rJoin_1 (S.rJoin_0 1 0 (S.rBadd_0 a c) (S.rBadd_0 a c)) (S.rJoin_1 1 0 (S.rBadd_0 a c) (S.rBadd_0 a c)) (S.rBadd_0 a d) (S.rBadd_0 a d)) (S.rBadd_0 b c) (S.rBadd_0 b c)) (S.rBadd_0 b d) (S.rBadd_0 b d)), .int true .i64 (S.rJoin_1 (S.rJoin_0 (S.rJoin_0 (S.rJoin_0 1 0 (S.rBadd_0 a c) (S.rBadd_0 a c)) (S.rJoin_1 1 0 (S.rBadd_0 a c) (S.rBadd_0 a c)) (S.rBadd_0 a d) (S.rBadd_0 a d)) (S.rJoin_1 (S.rJoin_0 1 0 (S.rBadd_0 a c) (S.rBadd_0 a c)) (S.rJoin_1 1 0 (S.rBadd_0 a c) (S.rBadd_0 a c)) (S.rBadd_0 a d) (S.rBadd_0 a d)) (S.rBadd_0 b c) (S.rBadd_0 b c)) (S.rJoin_1 (S.rJoin_0 (S.rJoin_0 1 0 (S.rBadd_0 a c) (S.rBadd_0 a c)) (S.rJoin_1 1 0 (S.rBadd_0 a c) (S.rBadd_0 a c)) (S.rBadd_0 a d) (S.rBadd_0 a d)) (S.rJoin_1 (S.rJoin_0 1 0 (S.rBadd_0 a c) (S.rBadd_0 a c)) (S.rJoin_1 1 0 (S.rBadd_0 a c) (S.rBadd_0 a c)) (S.rBadd_0 a d) (S.rBadd_0 a d)) (S.rBadd_0 b c) (S.rBadd_0 b c)) (S.rBadd_0 b d) (S.rBadd_0 b d))], []) := by kernel_rfl
theorem S.readd_sim (a b c d : Int) : Sim prog 61 [.str true ⟨#[43]⟩, .agg [.int true .i64 a, .int true .i64 b], .agg [.int true .i64 c, .int true .i64 d]] [] (.agg [.int true .i64 (S.readd_0 a b c d), .int true .i64 (S.readd_1 a b c d)]) [] := by
 refine Sim.args (args' := [.str false ⟨#[43]⟩, .agg [.int true .i64 a, .int true .i64 b], .agg [.int true .i64 c, .int true .i64 d]]) ?_ (.cons (Says.str rfl) (.cons (Says.refl _) (.cons (Says.refl _) (.nil))))
 exact (sim_run (S.hE S.o_wimul_ok) (S.readd_r0 a b c d) trivial).says (Says.agg (.cons (Says.int (rfl)) (.cons (Says.int (rfl)) (.nil))))
def S.o_readd : Orc := orcAdd 61 (fun | [.str true t0, .agg [.int true .i64 a, .int true .i64 b], .agg [.int true .i64 c, .int true .i64 d]] => (match t0.data.toList == [43] with | true => some (.agg [.int true .i64 (S.readd_0 a b c d), .int true .i64 (S.readd_1 a b c d)]) | false => none) | _ => none) S.o_wimul
theorem S.o_readd_ok : OrcOk prog S.o_readd := orcAdd_ok S.o_wimul_ok fun a v h => by
  try dsimp only at h
  split at h
  · rename_i t0 a b c d
    split at h
    · rename_i ht; cases h; have ht0 := ht; obtain rfl := ba_eq ht0; exact S.readd_sim a b c d
    · cases h
  · cases h
def S.resub_0 (a b c d : Int) : Int := (S.rJoin_0 (S.rJoin_0 (S.rJoin_0 (S.rJoin_0 1 0 (S.rBsub_0 a c) (S.rBsub_0 a c)) (S.rJoin_1 1 0 (S.rBsub_0 a c) (S.rBsub_0 a c)) (S.rBsub_0 a d) (S.rBsub_0 a d)) (S.rJoin_1 (S.rJoin_0 1 0 (S.rBsub_0 a c) (S.rBsub_0 a c)) (S.rJoin_1 1 0 (S.rBsub_0 a c) (S.rBsub_0 a c)) (S.rBsub_0 a d) (S.rBsub_0 a d)) (S.rBsub_0 b c) (S.rBsub_0 b c)) (S.rJoin_1 (S.rJoin_0 (S.rJoin_0 1 0 (S.rBsub_0 a c) (S.rBsub_0 a c)) (S.rJoin_1 1 0 (S.rBsub_0 a c) (S.rBsub_0 a c)) (S.rBsub_0 a d) (S.rBsub_0 a d)) (S.rJoin_1 (S.rJoin_0 1 0 (S.rBsub_0 a c) (S.rBsub_0 a c)) (S.rJoin_1 1 0 (S.rBsub_0 a c) (S.rBsub_0 a c)) (S.rBsub_0 a d) (S.rBsub_0 a d)) (S.rBsub_0 b c) (S.rBsub_0 b c)) (S.rBsub_0 b d) (S.rBsub_0 b d))
def S.resub_1 (a b c d : Int) : Int := (S.rJoin_1 (S.rJoin_0 (S.rJoin_0 (S.rJoin_0 1 0 (S.rBsub_0 a c) (S.rBsub_0 a c)) (S.rJoin_1 1 0 (S.rBsub_0 a c) (S.rBsub_0 a c)) (S.rBsub_0 a d) (S.rBsub_0 a d)) (S.rJoin_1 (S.rJoin_0 1 0 (S.rBsub_0 a c) (S.rBsub_0 a c)) (S.rJoin_1 1 0 (S.rBsub_0 a c) (S.rBsub_0 a c)) (S.rBsub_0 a d) (S.rBsub_0 a d)) (S.rBsub_0 b c) (S.rBsub_0 b c)) (S.rJoin_1 (S.rJoin_0 (S.rJoin_0 1 0 (S.rBsub_0 a c) (S.rBsub_0 a c)) (S.rJoin_1 1 0 (S.rBsub_0 a c) (S.rBsub_0 a c)) (S.rBsub_0 a d) (S.rBsub_0 a d)) (S.rJoin_1 (S.rJoin_0 1 0 (S.rBsub_0 a c) (S.rBsub_0 a c)) (S.rJoin_1 1 0 (S.rBsub_0 a c) (S.rBsub_0 a c)) (S.rBsub_0 a d) (S.rBsub_0 a d)) (S.rBsub_0 b c) (S.rBsub_0 b c)) (S.rBsub_0 b d) (S.rBsub_0 b d))
theorem S.resub_r0 (a b c d : Int) : run (envC prog imA 300 {} S.o_readd) 61 [.str false ⟨#[45]⟩, .agg [.int true .i64 a, .int true .i64 b], .agg [.int true .i64 c, .int true .i64 d]] [] [] = some (True, .agg [.int true .i64 (S.rJoin_0 (S.rJoin_0 (S.rJoin_0 (S.rJoin_0 1 0 (S.rBsub_0 a c) (S.rBsub_0 a c)) (S.rJoin_1 1 0 (S.rBsub_0 a c) (S.rBsub_0 a c)) (S.rBsub_0 a d) (S.rBsub_0 a d)) (S.rJoin_1 (S.rJoin_0 1 0 (S.rBsub_0 a c) (S.rBsub_0 a c)) (S.rJoin_1 1 0 (S.rBsub_0 a c) (S.rBsub_0 a c)) (S.rBsub_0 a d) (S.rBsub_0 a d)) (S.rBsub_0 b c) (S.rBsub_0 b c)) (S.rJoin_1 (S.rJoin_0 (S.rJoin_0 1 0 (S.rBsub_0 a c) (S.rBsub_0 a c)) (S.rJoin_1 1 0 (S.rBsub_0 a c) (S.rBsub_0 a c)) (S.rBsub_0 a d) (S.rBsub_0 a d)) (S.rJoin_1 (S.rJoin_0 1 0 (S.rBsub_0 a c) (S.rBsub_0 a c)) (S.rJoin_1 1 0 (S.rBsub_0 a c) (S.rBsub_0 a c)) (S.rBsub_0 a d) (S.rBsub_0 a d)) (S.rBsub_0 b c) (S.rBsub_0 b c)) (S.rBsub_0 b d) (S.rBsub_0 b d)), .int true .i64 (S.rJoin_1 (S.rJoin_0 (S.rJoin_0 (S.rJoin_0 1 0 (S.rBsub_0 a c) (S.rBsub_0 a c)) (S.rJoin_1 1 0 (S.rBsub_0 a c) (S.rBsub_0 a c)) (S.rBsub_0 a d) (S.rBsub_0 a d)) (S.rJoin_1 (S.rJoin_0 1 0 (S.rBsub_0 a c) (S.rBsub_0 a c)) (S.rJoin_1 1 0 (S.rBsub_0 a c) (S.rBsub_0 a c)) (S.rBsub_0 a d) (S.rBsub_0 a d)) (S.rBsub_0 b c) (S.rBsub_0 b c)) (S.rJoin_1 (S.rJoin_0 (S.rJoin_0 1 0 (S.rBsub_0 a c) (S.rBsub_0 a c)) (S.rJoin_1 1 0 (S.rBsub_0 a c) (S.rBsub_0 a c)) (S.rBsub_0 a d) (S.rBsub_0 a d)) (S.rJoin_1 (S.rJoin_0 1 0 (S.rBsub_0 a c) (S.rBsub_0 a c)) (S.rJoin_1 1 0 (S.rBsub_0 a c) (S.rBsub_0 a c)) (S.rBsub_0 a d) (S.rBsub_0 a d)) (S.rBsub_0 b c) (S.rBsub_0 b c)) (S.rBsub_0 b d) (S.rBsub_0 b d))], []) := by kernel_rfl
theorem S.resub_sim (a b c d : Int) : Sim prog 61 [.str true ⟨#[45]⟩, .agg [.int true .i64 a, .int true .i64 b], .agg [.int true .i64 c, .int true .i64 d]] [] (.agg [.int true .i64 (S.resub_0 a b c d), .int true .i64 (S.resub_1 a b c d)]) [] := by
 refine Sim.args (args' := [.str false ⟨#[45]⟩, .agg [.int true .i64 a, .int true .i64 b], .agg [.int true .i64 c, .int true .i64 d]]) ?_ (.cons (Says.str rfl) (.cons (Says.refl _) (.cons (Says.refl _) (.nil))))
 exact (sim_run (S.hE S.o_readd_ok) (S.resub_r0 a b c d) trivial).says (Says.agg (.cons (Says.int (rfl)) (.cons (Says.int (rfl)) (.nil))))
def S.o_resub : Orc := orcAdd 61 (fun | [.str true t0, .agg [.int true .i64 a, .int true .i64 b], .agg [.int true .i64 c, .int true .i64 d]] => (match t0.data.toList == [45] with | true => some (.agg [.int true .i64 (S.resub_0 a b c d), .int true .i64 (S.resub_1 a b c d)]) | false => none) | _ => none) S.o_readd
theorem S.o_resub_ok : OrcOk prog S.o_resub := orcAdd_ok S.o_readd_ok fun a v h => by
  try dsimp only at h
  split at h
  · rename_i t0 a b c d
    split at h
    · rename_i ht; cases h; have ht0 := ht; obtain rfl := ba_eq ht0; exact S.resub_sim a b c d
    · cases h
  · cases h
def S.remul_0 (a b c d : Int) : Int := (S.rJoin_0 (S.rJoin_0 (S.rJoin_0 (S.rJoin_0 1 0 (S.rBmul_0 a c) (S.rBmul_0 a c)) (S.rJoin_1 1 0 (S.rBmul_0 a c) (S.rBmul_0 a c)) (S.rBmul_0 a d) (S.rBmul_0 a d)) (S.rJoin_1 (S.rJoin_0 1 0 (S.rBmul_0 a c) (S.rBmul_0 a c)) (S.rJoin_1 1 0 (S.rBmul_0 a c) (S.rBmul_0 a c)) (S.rBmul_0 a d) (S.rBmul_0 a d)) (S.rBmul_0 b c) (S.rBmul_0 b c)) (S.rJoin_1 (S.rJoin_0 (S.rJoin_0 1 0 (S.rBmul_0 a c) (S.rBmul_0 a c)) (S.rJoin_1 1 0 (S.rBmul_0 a c) (S.rBmul_0 a c)) (S.rBmul_0 a d) (S.rBmul_0 a d)) (S.rJoin_1 (S.rJoin_0 1 0 (S.rBmul_0 a c) (S.rBmul_0 a c)) (S.rJoin_1 1 0 (S.rBmul_0 a c) (S.rBmul_0 a c)) (S.rBmul_0 a d) (S.rBmul_0 a d)) (S.rBmul_0 b c) (S.rBmul_0 b c)) (S.rBmul_0 b d) (S.rBmul_0 b d))
def S.remul_1 (a b c d : Int) : Int := (S.rJoin_1 (S.rJoin_0 (S.rJoin_0 (S.rJoin_0 1 0 (S.rBmul_0 a c) (S.rBmul_0 a c)) (S.rJoin_1 1 0 (S.rBmul_0 a c) (S.rBmul_0 a c)) (S.rBmul_0 a d) (S.rBmul_0 a d)) (S.rJoin_1 (S.rJoin_0 1 0 (S.rBmul_0 a c) (S.rBmul_0 a c)) (S.rJoin_1 1 0 (S.rBmul_0 a c) (S.rBmul_0 a c)) (S.rBmul_0 a d) (S.rBmul_0 a d)) (S.rBmul_0 b c) (S.rBmul_0 b c)) (S.rJoin_1 (S.rJoin_0 (S.rJoin_0 1 0 (S.rBmul_0 a c) (S.rBmul_0 a c)) (S.rJoin_1 1 0 (S.rBmul_0 a c) (S.rBmul_0 a c)) (S.rBmul_0 a d) (S.rBmul_0 a d)) (S.rJoin_1 (S.rJoin_0 1 0 (S.rBmul_0 a c) (S.rBmul_0 a c)) (S.rJoin_1 1 0 (S.rBmul_0 a c) (S.rBmul_0 a c)) (S.rBmul_0 a d) (S.rBmul_0 a d)) (S.rBmul_0 b c) (S.rBmul_0 b c)) (S.rBmul_0 b d) (S.rBmul_0 b d))
theorem S.remul_r0 (a b c d : Int) : run (envC prog imA 300 {} S.o_resub) 61 [.str false ⟨#[42]⟩, .agg [.int true .i64 a, .int true .i64 b], .agg [.int true .i64 c, .int true .i64 d]] [] [] = some (True, .agg [.int true .i64 (S.rJoin_0 (S.rJoin_0 (S.rJoin_0 (S.rJoin_0 1 0 (S.rBmul_0 a c) (S.rBmul_0 a c)) (S.rJoin_1 1 0 (S.rBmul_0 a c) (S.rBmul_0 a c)) (S.rBmul_0 a d) (S.rBmul_0 a d)) (S.rJoin_1 (S.rJoin_0 1 0 (S.rBmul_0 a c) (S.rBmul_0 a c)) (S.rJoin_1 1 0 (S.rBmul_0 a c) (S.rBmul_0 a c)) (S.rBmul_0 a d) (S.rBmul_0 a d)) (S.rBmul_0 b c) (S.rBmul_0 b c)) (S.rJoin_1 (S.rJoin_0 (S.rJoin_0 1 0 (S.rBmul_0 a c) (S.rBmul_0 a c)) (S.rJoin_1 1 0 (S.rBmul_0 a c) (S.rBmul_0 a c)) (S.rBmul_0 a d) (S.rBmul_0 a d)) (S.rJoin_1 (S.rJoin_0 1 0 (S.rBmul_0 a c) (S.rBmul_0 a c)) (S.rJoin_1 1 0 (S.rBmul_0 a c) (S.rBmul_0 a c)) (S.rBmul_0 a d) (S.rBmul_0 a d)) (S.rBmul_0 b c) (S.rBmul_0 b c)) (S.rBmul_0 b d) (S.rBmul_0 b d)), .int true .i64 (S.rJoin_1 (S.rJoin_0 (S.rJoin_0 (S.rJoin_0 1 0 (S.rBmul_0 a c) (S.rBmul_0 a c)) (S.rJoin_1 1 0 (S.rBmul_0 a c) (S.rBmul_0 a c)) (S.rBmul_0 a d) (S.rBmul_0 a d)) (S.rJoin_1 (S.rJoin_0 1 0 (S.rBmul_0 a c) (S.rBmul_0 a c)) (S.rJoin_1 1 0 (S.rBmul_0 a c) (S.rBmul_0 a c)) (S.rBmul_0 a d) (S.rBmul_0 a d)) (S.rBmul_0 b c) (S.rBmul_0 b c)) (S.rJoin_1 (S.rJoin_0 (S.rJoin_0 1 0 (S.rBmul_0 a c) (S.rBmul_0 a c)) (S.rJoin_1 1 0 (S.rBmul_0 a c) (S.rBmul_0 a c)) (S.rBmul_0 a d) (S.rBmul_0 a d)) (S.rJoin_1 (S.rJoin_0 1 0 (S.rBmul_0 a c) (S.rBmul_0 a c)) (S.rJoin_1 1 0 (S.rBmul_0 a c) (S.rBmul_0 a c)) (S.rBmul_0 a d) (S.rBmul_0 a d)) (S.rBmul_0 b c) (S.rBmul_0 b c)) (S.rBmul_0 b d) (S.rBmul_0 b d))], []) := by kernel_rfl
theorem S.remul_sim (a b c d : Int) : Sim prog 61 [.str true ⟨#[42]⟩, .agg [.int true .i64 a, .int true .i64 b], .agg [.int true .i64 c, .int true .i64 d]] [] (.agg [.int true .i64 (S.remul_0 a b c d), .int true .i64 (S.remul_1 a b c d)]) [] := by
 refine Sim.args (args' := [.str false ⟨#[42]⟩, .agg [.int true .i64 a, .int true .i64 b], .agg [.int true .i64 c, .int true .i64 d]]) ?_ (.cons (Says.str rfl) (.cons (Says.refl _) (.cons (Says.refl _) (.nil))))
 exact (sim_run (S.hE S.o_resub_ok) (S.remul_r0 a b c d) trivial).says (Says.agg (.cons (Says.int (rfl)) (.cons (Says.int (rfl)) (.nil))))
def S.o_remul : Orc := orcAdd 61 (fun | [.str true t0, .agg [.int true .i64 a, .int true .i64 b], .agg [.int true .i64 c, .int true .i64 d]] => (match t0.data.toList == [42] with | true => some (.agg [.int true .i64 (S.remul_0 a b c d), .int true .i64 (S.remul_1 a b c d)]) | false => none) | _ => none) S.o_resub
theorem S.o_remul_ok : OrcOk prog S.o_remul := orcAdd_ok S.o_resub_ok fun a v h => by
  try dsimp only at h
  split at h
  · rename_i t0 a b c d
    split at h
    · rename_i ht; cases h; have ht0 := ht; obtain rfl := ba_eq ht0; exact S.remul_sim a b c d
    · cases h
  · cases h
def S.requo_0 (a b c d : Int) : Int := (S.rJoin_0 (S.rJoin_0 (S.rJoin_0 (S.rJoin_0 1 0 (S.rBquo_0 a c) (S.rBquo_0 a c)) (S.rJoin_1 1 0 (S.rBquo_0 a c) (S.rBquo_0 a c)) (S.rBquo_0 a d) (S.rBquo_0 a d)) (S.rJoin_1 (S.rJoin_0 1 0 (S.rBquo_0 a c) (S.rBquo_0 a c)) (S.rJoin_1 1 0 (S.rBquo_0 a c) (S.rBquo_0 a c)) (S.rBquo_0 a d) (S.rBquo_0 a d)) (S.rBquo_0 b c) (S.rBquo_0 b c)) (S.rJoin_1 (S.rJoin_0 (S.rJoin_0 1 0 (S.rBquo_0 a c) (S.rBquo_0 a c)) (S.rJoin_1 1 0 (S.rBquo_0 a c) (S.rBquo_0 a c)) (S.rBquo_0 a d) (S.rBquo_0 a d)) (S.rJoin_1 (S.rJoin_0 1 0 (S.rBquo_0 a c) (S.rBquo_0 a c)) (S.rJoin_1 1 0 (S.rBquo_0 a c) (S.rBquo_0 a c)) (S.rBquo_0 a d) (S.rBquo_0 a d)) (S.rBquo_0 b c) (S.rBquo_0 b c)) (S.rBquo_0 b d) (S.rBquo_0 b d))
def S.requo_1 (a b c d : Int) : Int := (S.rJoin_1 (S.rJoin_0 (S.rJoin_0 (S.rJoin_0 1 0 (S.rBquo_0 a c) (S.rBquo_0 a c)) (S.rJoin_1 1 0 (S.rBquo_0 a c) (S.rBquo_0 a c)) (S.rBquo_0 a d) (S.rBquo_0 a d)) (S.rJoin_1 (S.rJoin_0 1 0 (S.rBquo_0 a c) (S.rBquo_0 a c)) (S.rJoin_1 1 0 (S.rBquo_0 a c) (S.rBquo_0 a c)) (S.rBquo_0 a d) (S.rBquo_0 a d)) (S.rBquo_0 b c) (S.rBquo_0 b c)) (S.rJoin_1 (S.rJoin_0 (S.rJoin_0 1 0 (S.rBquo_0 a c) (S.rBquo_0 a c)) (S.rJoin_1 1 0 (S.rBquo_0 a c) (S.rBquo_0 a c)) (S.rBquo_0 a d) (S.rBquo_0 a d)) (S.rJoin_1 (S.rJoin_0 1 0 (S.rBquo_0 a c) (S.rBquo_0 a c)) (S.rJoin_1 1 0 (S.rBquo_0 a c) (S.rBquo_0 a c)) (S.rBquo_0 a d) (S.rBquo_0 a d)) (S.rBquo_0 b c) (S.rBquo_0 b c)) (S.rBquo_0 b d) (S.rBquo_0 b d))
theorem S.requo_r0 (a b c d : Int) : run (envC prog imA 300 {} S.o_remul) 61 [.str false ⟨#[47]⟩, .agg [.int true .i64 a, .int true .i64 b], .agg [.int true .i64 c, .int true .i64 d]] [] [] = some (True, .agg [.int true .i64 (S.rJoin_0 (S.rJoin_0 (S.rJoin_0 (S.rJoin_0 1 0 (S.rBquo_0 a c) (S.rBquo_0 a c)) (S.rJoin_1 1 0 (S.rBquo_0 a c) (S.rBquo_0 a c)) (S.rBquo_0 a d) (S.rBquo_0 a d)) (S.rJoin_1 (S.rJoin_0 1 0 (S.rBquo_0 a c) (S.rBquo_0 a c)) (S.rJoin_1 1 0 (S.rBquo_0 a c) (S.rBquo_0 a c)) (S.rBquo_0 a d) (S.rBquo_0 a d)) (S.rBquo_0 b c) (S.rBquo_0 b c)) (S.rJoin_1 (S.rJoin_0 (S.rJoin_0 1 0 (S.rBquo_0 a c) (S.rBquo_0 a c)) (S.rJoin_1 1 0 (S.rBquo_0 a c) (S.rBquo_0 a c)) (S.rBquo_0 a d) (S.rBquo_0 a d)) (S.rJoin_1 (S.rJoin_0 1 0 (S.rBquo_0 a c) (S.rBquo_0 a c)) (S.rJoin_1 1 0 (S.rBquo_0 a c) (S.rBquo_0 a c)) (S.rBquo_0 a d) (S.rBquo_0 a d)) (S.rBquo_0 b c) (S.rBquo_0 b c)) (S.rBquo_0 b d) (S.rBquo_0 b d)), .int true .i64 (S.rJoin_1 (S.rJoin_0 (S.rJoin_0 (S.rJoin_0 1 0 (S.rBquo_0 a c) (S.rBquo_0 a c)) (S.rJoin_1 1 0 (S.rBquo_0 a c) (S.rBquo_0 a c)) (S.rBquo_0 a d) (S.rBquo_0 a d)) (S.rJoin_1 (S.rJoin_0 1 0 (S.rBquo_0 a c) (S.rBquo_0 a c)) (S.rJoin_1 1 0 (S.rBquo_0 a c) (S.rBquo_0 a c)) (S.rBquo_0 a d) (S.rBquo_0 a d)) (S.rBquo_0 b c) (S.rBquo_0 b c)) (S.rJoin_1 (S.rJoin_0 (S.rJoin_0 1 0 (S.rBquo_0 a c) (S.rBquo_0 a c)) (S.rJoin_1 1 0 (S.rBquo_0 a c) (S.rBquo_0 a c)) (S.rBquo_0 a d) (S.rBquo_0 a d)) (S.rJoin_1 (S.rJoin_0 1 0 (S.rBquo_0 a c) (S.rBquo_0 a c)) (S.rJoin_1 1 0 (S.rBquo_0 a c) (S.rBquo_0 a c)) (S.rBquo_0 a d) (S.rBquo_0 a d)) (S.rBquo_0 b c) (S.rBquo_0 b c)) (S.rBquo_0 b d) (S.rBquo_0 b d))], []) := by kernel_rfl
theorem S.requo_sim (a b c d : Int) : Sim prog 61 [.str true ⟨#[47]⟩, .agg [.int true .i64 a, .int true .i64 b], .agg [.int true .i64 c, .int true .i64 d]] [] (.agg [.int true .i64 (S.requo_0 a b c d), .int true .i64 (S.requo_1 a b c d)]) [] := by
 refine Sim.args (args' := [.str false ⟨#[47]⟩, .agg [.int true .i64 a, .int true .i64 b], .agg [.int true .i64 c, .int true .i64 d]]) ?_ (.cons (Says.str rfl) (.cons (Says.refl _) (.cons (Says.refl _) (.nil))))
 exact (sim_run (S.hE S.o_remul_ok) (S.requo_r0 a b c d) trivial).says (Says.agg (.cons (Says.int (rfl)) (.cons (Says.int (rfl)) (.nil))))
def S.o_requo : Orc := orcAdd 61 (fun | [.str true t0, .agg [.int true .i64 a, .int true .i64 b], .agg [.int true .i64 c, .int true .i64 d]] => (match t0.data.toList == [47] with | true => some (.agg [.int true .i64 (S.requo_0 a b c d), .int true .i64 (S.requo_1 a b c d)]) | false => none) | _ => none) S.o_remul
theorem S.o_requo_ok : OrcOk prog S.o_requo := orcAdd_ok S.o_remul_ok fun a v h => by
  try dsimp only at h
  split at h
  · rename_i t0 a b c d
    split at h
    · rename_i ht; cases h; have ht0 := ht; obtain rfl := ba_eq ht0; exact S.requo_sim a b c d
    · cases h
  · cases h
def S.reright_0 (a b c d : Int) : Int := (S.rJoin_0 (S.rJoin_0 (S.rJoin_0 (S.rJoin_0 1 0 (S.rBright_0 a c) (S.rBright_0 a c)) (S.rJoin_1 1 0 (S.rBright_0 a c) (S.rBright_0 a c)) (S.rBright_0 a d) (S.rBright_0 a d)) (S.rJoin_1 (S.rJoin_0 1 0 (S.rBright_0 a c) (S.rBright_0 a c)) (S.rJoin_1 1 0 (S.rBright_0 a c) (S.rBright_0 a c)) (S.rBright_0 a d) (S.rBright_0 a d)) (S.rBright_0 b c) (S.rBright_0 b c)) (S.rJoin_1 (S.rJoin_0 (S.rJoin_0 1 0 (S.rBright_0 a c) (S.rBright_0 a c)) (S.rJoin_1 1 0 (S.rBright_0 a c) (S.rBright_0 a c)) (S.rBright_0 a d) (S.rBright_0 a d)) (S.rJoin_1 (S.rJoin_0 1 0 (S.rBright_0 a c) (S.rBright_0 a c)) (S.rJoin_1 1 0 (S.rBright_0 a c) (S.rBright_0 a c)) (S.rBright_0 a d) (S.rBright_0 a d)) (S.rBright_0 b c) (S.rBright_0 b c)) (S.rBright_0 b d) (S.rBright_0 b d))
def S.reright_1 (a b c d : Int) : Int := (S.rJoin_1 (S.rJoin_0 (S.rJoin_0 (S.rJoin_0 1 0 (S.rBright_0 a c) (S.rBright_0 a c)) (S.rJoin_1 1 0 (S.rBright_0 a c) (S.rBright_0 a c)) (S.rBright_0 a d) (S.rBright_0 a d)) (S.rJoin_1 (S.rJoin_0 1 0 (S.rBright_0 a c) (S.rBright_0 a c)) (S.rJoin_1 1 0 (S.rBright_0 a c) (S.rBright_0 a c)) (S.rBright_0 a d) (S.rBright_0 a d)) (S.rBright_0 b c) (S.rBright_0 b c)) (S.rJoin_1 (S.rJoin_0 (S.rJoin_0 1 0 (S.rBright_0 a c) (S.rBright_0 a c)) (S.rJoin_1 1 0 (S.rBright_0 a c) (S.rBright_0 a c)) (S.rBright_0 a d) (S.rBright_0 a d)) (S.rJoin_1 (S.rJoin_0 1 0 (S.rBright_0 a c) (S.rBright_0 a c)) (S.rJoin_1 1 0 (S.rBright_0 a c) (S.rBright_0 a c)) (S.rBright_0 a d) (S.rBright_0 a d)) (S.rBright_0 b c) (S.rBright_0 b c)) (S.rBright_0 b d) (S.rBright_0 b d))
theorem S.reright_r0 (a b c d : Int) : run (envC prog imA 300 {} S.o_requo) 61 [.str false ⟨#[62, 62]⟩, .agg [.int true .i64 a, .int true .i64 b], .agg [.int true .i64 c, .int true .i64 d]] [] [] = some (True, .agg [.int true .i64 (S.rJoin_0 (S.rJoin_0 (S.rJoin_0 (S.rJoin_0 1 0 (S.rBright_0 a c) (S.rBright_0 a c)) (S.rJoin_1 1 0 (S.rBright_0 a c) (S.rBright_0 a c)) (S.rBright_0 a d) (S.rBright_0 a d)) (S.rJoin_1 (S.rJoin_0 1 0 (S.rBright_0 a c) (S.rBright_0 a c)) (S.rJoin_1 1 0 (S.rBright_0 a c) (S.rBright_0 a c)) (S.rBright_0 a d) (S.rBright_0 a d)) (S.rBright_0 b c) (S.rBright_0 b c)) (S.rJoin_1 (S.rJoin_0 (S.rJoin_0 1 0 (S.rBright_0 a c) (S.rBright_0 a c)) (S.rJoin_1 1 0 (S.rBright_0 a c) (S.rBright_0 a c)) (S.rBright_0 a d) (S.rBright_0 a d)) (S.rJoin_1 (S.rJoin_0 1 0 (S.rBright_0 a c) (S.rBright_0 a c)) (S.rJoin_1 1 0 (S.rBright_0 a c) (S.rBright_0 a c)) (S.rBright_0 a d) (S.rBright_0 a d)) (S.rBright_0 b c) (S.rBright_0 b c)) (S.rBright_0 b d) (S.rBright_0 b d)), .int true .i64 (S.rJoin_1 (S.rJoin_0 (S.rJoin_0 (S.rJoin_0 1 0 (S.rBright_0 a c) (S.rBright_0 a c)) (S.rJoin_1 1 0 (S.rBright_0 a c) (S.rBright_0 a c)) (S.rBright_0 a d) (S.rBright_0 a d)) (S.rJoin_1 (S.rJoin_0 1 0 (S.rBright_0 a c) (S.rBright_0 a c)) (S.rJoin_1 1 0 (S.rBright_0 a c) (S.rBright_0 a c)) (S.rBright_0 a d) (S.rBright_0 a d)) (S.rBright_0 b c) (S.rBright_0 b c)) (S.rJoin_1 (S.rJoin_0 (S.rJoin_0 1 0 (S.rBright_0 a c) (S.rBright_0 a c)) (S.rJoin_1 1 0 (S.rBright_0 a c) (S.rBright_0 a c)) (S.rBright_0 a d) (S.rBright_0 a d)) (S.rJoin_1 (S.rJoin_0 1 0 (S.rBright_0 a c) (S.rBright_0 a c)) (S.rJoin_1 1 0 (S.rBright_0 a c) (S.rBright_0 a c)) (S.rBright_0 a d) (S.rBright_0 a d)) (S.rBright_0 b c) (S.rBright_0 b c)) (S.rBright_0 b d) (S.rBright_0 b d))], []) := by kernel_rfl
theorem S.reright_sim (a b c d : Int) : Sim prog 61 [.str true ⟨#[62, 62]⟩, .agg [.int true .i64 a, .int true .i64 b], .agg [.int true .i64 c, .int true .i64 d]] [] (.agg [.int true .i64 (S.reright_0 a b c d), .int true .i64 (S.reright_1 a b c d)]) [] := by
 refine Sim.args (args' := [.str false ⟨#[62, 62]⟩, .agg [.int true .i64 a, .int true .i64 b], .agg [.int true .i64 c, .int true .i64 d]]) ?_ (.cons (Says.str rfl) (.cons (Says.refl _) (.cons (Says.refl _) (.nil))))
 exact (sim_run (S.hE S.o_requo_ok) (S.reright_r0 a b c d) trivial).says (Says.agg (.cons (Says.int (rfl)) (.cons (Says.int (rfl)) (.nil))))
def S.o_reright : Orc := orcAdd 61 (fun | [.str true t0, .agg [.int true .i64 a, .int true .i64 b], .agg [.int true .i64 c, .int true .i64 d]] => (match t0.data.toList == [62, 62] with | true => some (.agg [.int true .i64 (S.reright_0 a b c d), .int true .i64 (S.reright_1 a b c d)]) | false => none) | _ => none) S.o_requo
theorem S.o_reright_ok : OrcOk prog S.o_reright := orcAdd_ok S.o_requo_ok fun a v h => by
  try dsimp only at h
  split at h
  · rename_i t0 a b c d
    split at h
    · rename_i ht; cases h; have ht0 := ht; obtain rfl := ba_eq ht0; exact S.reright_sim a b c d
    · cases h
  · cases h
def S.rquot_0 (a b c d : Int) : Int := (bif S.rEmpty c d then (1) else (bif S.rHas a b (-9223372036854775808) then (bif S.rHas c d (-1) then (-9223372036854775808) else (S.requo_0 a b c d)) else (S.requo_0 a b c d)))
def S.rquot_1 (a b c d : Int) : Int := (bif S.rEmpty c d then (0) else (bif S.rHas a b (-9223372036854775808) then (bif S.rHas c d (-1) then (9223372036854775807) else (S.requo_1 a b c d)) else (S.requo_1 a b c d)))
theorem S.rquot_r0 (a b c d : Int) : run (envC prog imA 300 {} S.o_reright) 62 [.agg [.int true .i64 a, .int true .i64 b], .agg [.int true .i64 c, .int true .i64 d]] [] [.br true] = some (True ∧ S.rEmpty c d = true, .agg [.int false .i64 1, .int false .i64 0], []) := by kernel_rfl
theorem S.rquot_r1 (a b c d : Int) : run (envC prog imA 300 {} S.o_reright) 62 [.agg [.int true .i64 a, .int true .i64 b], .agg [.int true .i64 c, .int true .i64 d]] [] [.br false, .br true, .br true] = some (((True ∧ S.rEmpty c d = false) ∧ S.rHas a b (-9223372036854775808) = true) ∧ S.rHas c d (-1) = true, .agg [.int false .i64 (-9223372036854775808), .int false .i64 9223372036854775807], []) := by kernel_rfl
theorem S.rquot_r2 (a b c d : Int) : run (envC prog imA 300 {} S.o_reright) 62 [.agg [.int true .i64 a, .int true .i64 b], .agg [.int true .i64 c, .int true .i64 d]] [] [.br false, .br false] = some ((True ∧ S.rEmpty c d = false) ∧ S.rHas a b (-9223372036854775808) = false, .agg [.int true .i64 (S.requo_0 a b c d), .int true .i64 (S.requo_1 a b c d)], []) := by kernel_rfl
theorem S.rquot_r3 (a b c d : Int) : run (envC prog imA 300 {} S.o_reright) 62 [.agg [.int true .i64 a, .int true .i64 b], .agg [.int true .i64 c, .int true .i64 d]] [] [.br false, .br true, .br false] = some (((True ∧ S.rEmpty c d = false) ∧ S.rHas a b (-9223372036854775808) = true) ∧ S.rHas c d (-1) = false, .agg [.int true .i64 (S.requo_0 a b c d), .int true .i64 (S.requo_1 a b c d)], []) := by kernel_rfl
theorem S.rquot_sim (a b c d : Int) : Sim prog 62 [.agg [.int true .i64 a, .int true .i64 b], .agg [.int true .i64 c, .int true .i64 d]] [] (.agg [.int true .i64 (S.rquot_0 a b c d), .int true .i64 (S.rquot_1 a b c d)]) [] := by
 rcases Bool.eq_false_or_eq_true (S.rEmpty c d) with h0 | h0
 ·
  exact (sim_run (S.hE S.o_reright_ok) (S.rquot_r0 a b c d) ⟨trivial, h0⟩).says (Says.agg (.cons (Says.int (by simp only [S.rquot_0, h0, cond_true, cond_false])) (.cons (Says.int (by simp only [S.rquot_1, h0, cond_true, cond_false])) (.nil))))
 ·
  rcases Bool.eq_false_or_eq_true (S.rHas a b (-9223372036854775808)) with h1 | h1
  ·
   rcases Bool.eq_false_or_eq_true (S.rHas c d (-1)) with h2 | h2
   ·
    exact (sim_run (S.hE S.o_reright_ok) (S.rquot_r1 a b c d) ⟨⟨⟨trivial, h0⟩, h1⟩, h2⟩).says (Says.agg (.cons (Says.int (by simp only [S.rquot_0, h2, h1, h0, cond_true, cond_false])) (.cons (Says.int (by simp only [S.rquot_1, h2, h1, h0, cond_true, cond_false])) (.nil))))
   ·
    exact (sim_run (S.hE S.o_reright_ok) (S.rquot_r3 a b c d) ⟨⟨⟨trivial, h0⟩, h1⟩, h2⟩).says (Says.agg (.cons (Says.int (by simp only [S.rquot_0, h2, h1, h0, cond_true, cond_false])) (.cons (Says.int (by simp only [S.rquot_1, h2, h1, h0, cond_true, cond_false])) (.nil))))
  ·
   exact (sim_run (S.hE S.o_reright_ok) (S.rquot_r2 a b c d) ⟨⟨trivial, h0⟩, h1⟩).says (Says.agg (.cons (Says.int (by simp only [S.rquot_0, h1, h0, cond_true, cond_false])) (.cons (Says.int (by simp only [S.rquot_1, h1, h0, cond_true, cond_false])) (.nil))))
def S.o_rquot : Orc := orcAdd 62 (fun | [.agg [.int true .i64 a, .int true .i64 b], .agg [.int true .i64 c, .int true .i64 d]] => some (.agg [.int true .i64 (S.rquot_0 a b c d), .int true .i64 (S.rquot_1 a b c d)]) | _ => none) S.o_reright
theorem S.o_rquot_ok : OrcOk prog S.o_rquot := orcAdd_ok S.o_reright_ok fun a v h => by
  try dsimp only at h
  split at h
  · rename_i a b c d; cases h; exact S.rquot_sim a b c d
  · cases h
def S.rrest_0 (a b c d : Int) : Int := (bif c == 0 && (d == 0 && true) then (1) else (bif decide (a < 0) then (if false = true then if IntKind.wrap .i64 (0 - if false = true then if S.far d < S.far c then S.far d else S.far c else if S.far d > S.far c then S.far d else S.far c) < a then IntKind.wrap .i64 (0 - if false = true then if S.far d < S.far c then S.far d else S.far c else if S.far d > S.far c then S.far d else S.far c) else a else if IntKind.wrap .i64 (0 - if false = true then if S.far d < S.far c then S.far d else S.far c else if S.far d > S.far c then S.far d else S.far c) > a then IntKind.wrap .i64 (0 - if false = true then if S.far d < S.far c then S.far d else S.far c else if S.far d > S.far c then S.far d else S.far c) else a) else (0)))
def S.rrest_1 (a b c d : Int) : Int := (bif c == 0 && (d == 0 && true) then (0) else (bif decide (b > 0) then (if true = true then if (if false = true then if S.far d < S.far c then S.far d else S.far c else if S.far d > S.far c then S.far d else S.far c) < b then if false = true then if S.far d < S.far c then S.far d else S.far c else if S.far d > S.far c then S.far d else S.far c else b else if (if false = true then if S.far d < S.far c then S.far d else S.far c else if S.far d > S.far c then S.far d else S.far c) > b then if false = true then if S.far d < S.far c then S.far d else S.far c else if S.far d > S.far c then S.far d else S.far c else b) else (0)))
theorem S.rrest_r0 (a b c d : Int) : run (envC prog imA 300 {} S.o_rquot) 63 [.agg [.int true .i64 a, .int true .i64 b], .agg [.int true .i64 c, .int true .i64 d]] [] [.br true] = some (True ∧ (c == 0 && (d == 0 && true)) = true, .agg [.int false .i64 1, .int false .i64 0], []) := by kernel_rfl
theorem S.rrest_r1 (a b c d : Int) : run (envC prog imA 300 {} S.o_rquot) 63 [.agg [.int true .i64 a, .int true .i64 b], .agg [.int true .i64 c, .int true .i64 d]] [] [.br false, .br true, .br true] = some (((True ∧ (c == 0 && (d == 0 && true)) = false) ∧ decide (a < 0) = true) ∧ decide (b > 0) = true, .agg [.int true .i64 (if false = true then if IntKind.wrap .i64 (0 - if false = true then if S.far d < S.far c then S.far d else S.far c else if S.far d > S.far c then S.far d else S.far c) < a then IntKind.wrap .i64 (0 - if false = true then if S.far d < S.far c then S.far d else S.far c else if S.far d > S.far c then S.far d else S.far c) else a else if IntKind.wrap .i64 (0 - if false = true then if S.far d < S.far c then S.far d else S.far c else if S.far d > S.far c then S.far d else S.far c) > a then IntKind.wrap .i64 (0 - if false = true then if S.far d < S.far c then S.far d else S.far c else if S.far d > S.far c then S.far d else S.far c) else a), .int true .i64 (if true = true then if (if false = true then if S.far d < S.far c then S.far d else S.far c else if S.far d > S.far c then S.far d else S.far c) < b then if false = true then if S.far d < S.far c then S.far d else S.far c else if S.far d > S.far c then S.far d else S.far c else b else if (if false = true then if S.far d < S.far c then S.far d else S.far c else if S.far d > S.far c then S.far d else S.far c) > b then if false = true then if S.far d < S.far c then S.far d else S.far c else if S.far d > S.far c then S.far d else S.far c else b)], []) := by kernel_rfl
theorem S.rrest_r2 (a b c d : Int) : run (envC prog imA 300 {} S.o_rquot) 63 [.agg [.int true .i64 a, .int true .i64 b], .agg [.int true .i64 c, .int true .i64 d]] [] [.br false, .br false, .br true] = some (((True ∧ (c == 0 && (d == 0 && true)) = false) ∧ decide (a < 0) = false) ∧ decide (b > 0) = true, .agg [.int false .i64 0, .int true .i64 (if true = true then if (if false = true then if S.far d < S.far c then S.far d else S.far c else if S.far d > S.far c then S.far d else S.far c) < b then if false = true then if S.far d < S.far c then S.far d else S.far c else if S.far d > S.far c then S.far d else S.far c else b else if (if false = true then if S.far d < S.far c then S.far d else S.far c else if S.far d > S.far c then S.far d else S.far c) > b then if false = true then if S.far d < S.far c then S.far d else S.far c else if S.far d > S.far c then S.far d else S.far c else b)], []) := by kernel_rfl
theorem S.rrest_r3 (a b c d : Int) : run (envC prog imA 300 {} S.o_rquot) 63 [.agg [.int true .i64 a, .int true .i64 b], .agg [.int true .i64 c, .int true .i64 d]] [] [.br false, .br false, .br false] = some (((True ∧ (c == 0 && (d == 0 && true)) = false) ∧ decide (a < 0) = false) ∧ decide (b > 0) = false, .agg [.int false .i64 0, .int false .i64 0], []) := by kernel_rfl
theorem S.rrest_r4 (a b c d : Int) : run (envC prog imA 300 {} S.o_rquot) 63 [.agg [.int true .i64 a, .int true .i64 b], .agg [.int true .i64 c, .int true .i64 d]] [] [.br false, .br true, .br false] = some (((True ∧ (c == 0 && (d == 0 && true)) = false) ∧ decide (a < 0) = true) ∧ decide (b > 0) = false, .agg [.int true .i64 (if false = true then if IntKind.wrap .i64 (0 - if false = true then if S.far d < S.far c then S.far d else S.far c else if S.far d > S.far c then S.far d else S.far c) < a then IntKind.wrap .i64 (0 - if false = true then if S.far d < S.far c then S.far d else S.far c else if S.far d > S.far c then S.far d else S.far c) else a else if IntKind.wrap .i64 (0 - if false = true then if S.far d < S.far c then S.far d else S.far c else if S.far d > S.far c then S.far d else S.far c) > a then IntKind.wrap .i64 (0 - if false = true then if S.far d < S.far c then S.far d else S.far c else if S.far d > S.far c then S.far d else S.far c) else a), .int false .i64 0], []) := by kernel_rfl
theorem S.rrest_sim (a b c d : Int) : Sim prog 63 [.agg [.int true .i64 a, .int true .i64 b], .agg [.int true .i64 c, .int true .i64 d]] [] (.agg [.int true .i64 (S.rrest_0 a b c d), .int true .i64 (S.rrest_1 a b c d)]) [] := by
 rcases Bool.eq_false_or_eq_true (c == 0 && (d == 0 && true)) with h0 | h0
 ·
  exact (sim_run (S.hE S.o_rquot_ok) (S.rrest_r0 a b c d) ⟨trivial, h0⟩).says (Says.agg (.cons (Says.int (by simp only [S.rrest_0, h0, cond_true, cond_false])) (.cons (Says.int (by simp only [S.rrest_1, h0, cond_true, cond_false])) (.nil))))
 ·
  rcases Bool.eq_false_or_eq_true (decide (a < 0)) with h1 | h1
  ·
   rcases Bool.eq_false_or_eq_true (decide (b > 0)) with h2 | h2
   ·
    exact (sim_run (S.hE S.o_rquot_ok) (S.rrest_r1 a b c d) ⟨⟨⟨trivial, h0⟩, h1⟩, h2⟩).says (Says.agg (.cons (Says.int (by simp only [S.rrest_0, h2, h1, h0, cond_true, cond_false])) (.cons (Says.int (by simp only [S.rrest_1, h2, h1, h0, cond_true, cond_false])) (.nil))))
   ·
    exact (sim_run (S.hE S.o_rquot_ok) (S.rrest_r4 a b c d) ⟨⟨⟨trivial, h0⟩, h1⟩, h2⟩).says (Says.agg (.cons (Says.int (by simp only [S.rrest_0, h2, h1, h0, cond_true, cond_false])) (.cons (Says.int (by simp only [S.rrest_1, h2, h1, h0, cond_true, cond_false])) (.nil))))
  ·
   rcases Bool.eq_false_or_eq_true (decide (b > 0)) with h2 | h2
   ·
    exact (sim_run (S.hE S.o_rquot_ok) (S.rrest_r2 a b c d) ⟨⟨⟨trivial, h0⟩, h1⟩, h2⟩).says (Says.agg (.cons (Says.int (by simp only [S.rrest_0, h2, h1, h0, cond_true, cond_false])) (.cons (Says.int (by simp only [S.rrest_1, h2, h1, h0, cond_true, cond_false])) (.nil))))
   ·
    exact (sim_run (S.hE S.o_rquot_ok) (S.rrest_r3 a b c d) ⟨⟨⟨trivial, h0⟩, h1⟩, h2⟩).says (Says.agg (.cons (Says.int (by simp only [S.rrest_0, h2, h1, h0, cond_true, cond_false])) (.cons (Says.int (by simp only [S.rrest_1, h2, h1, h0, cond_true, cond_false])) (.nil))))
def S.o_rrest : Orc := orcAdd 63 (fun | [.agg [.int true .i64 a, .int true .i64 b], .agg [.int true .i64 c, .int true .i64 d]] => some (.agg [.int true .i64 (S.rrest_0 a b c d), .int true .i64 (S.rrest_1 a b c d)]) | _ => none) S.o_rquot
theorem S.o_rrest_ok : OrcOk prog S.o_rrest := orcAdd_ok S.o_rquot_ok fun a v h => by
  try dsimp only at h
  split at h
  · rename_i a b c d; cases h; exact S.rrest_sim a b c d
  · cases h
def S.rshl_0 (a b c d : Int) : Int := (bif S.rEmpty (S.rMeet_0 c d 0 63) (S.rMeet_1 c d 0 63) then (S.rMeet_0 c d 0 63) else (bif S.rMeet_0 c d 0 63 != S.rMeet_1 c d 0 63 then (-9223372036854775808) else (bif S.rMeet_0 c d 0 63 == 63 then (-9223372036854775808) else (bif !S.wimul a b (IntKind.wrap .i64 (1 * 2 ^ min (Int.toNat (IntKind.wrap .u64 (S.rMeet_0 c d 0 63))) (IntKind.bits .i64))) (IntKind.wrap .i64 (1 * 2 ^ min (Int.toNat (IntKind.wrap .u64 (S.rMeet_0 c d 0 63))) (IntKind.bits .i64))) then (-9223372036854775808) else (S.remul_0 a b (IntKind.wrap .i64 (1 * 2 ^ min (Int.toNat (IntKind.wrap .u64 (S.rMeet_0 c d 0 63))) (IntKind.bits .i64))) (IntKind.wrap .i64 (1 * 2 ^ min (Int.toNat (IntKind.wrap .u64 (S.rMeet_0 c d 0 63))) (IntKind.bits .i64))))))))
def S.rshl_1 (a b c d : Int) : Int := (bif S.rEmpty (S.rMeet_0 c d 0 63) (S.rMeet_1 c d 0 63) then (S.rMeet_1 c d 0 63) else (bif S.rMeet_0 c d 0 63 != S.rMeet_1 c d 0 63 then (9223372036854775807) else (bif S.rMeet_0 c d 0 63 == 63 then (9223372036854775807) else (bif !S.wimul a b (IntKind.wrap .i64 (1 * 2 ^ min (Int.toNat (IntKind.wrap .u64 (S.rMeet_0 c d 0 63))) (IntKind.bits .i64))) (IntKind.wrap .i64 (1 * 2 ^ min (Int.toNat (IntKind.wrap .u64 (S.rMeet_0 c d 0 63))) (IntKind.bits .i64))) then (9223372036854775807) else (S.remul_1 a b (IntKind.wrap .i64 (1 * 2 ^ min (Int.toNat (IntKind.wrap .u64 (S.rMeet_0 c d 0 63))) (IntKind.bits .i64))) (IntKind.wrap .i64 (1 * 2 ^ min (Int.toNat (IntKind.wrap .u64 (S.rMeet_0 c d 0 63))) (IntKind.bits .i64))))))))
theorem S.rshl_r0 (a b c d : Int) : run (envC prog imA 300 {} S.o_rrest) 65 [.str false ⟨#[60, 60]⟩, .agg [.int true .i64 a, .int true .i64 b], .agg [.int true .i64 c, .int true .i64 d]] [] [.br true] = some (True ∧ S.rEmpty (S.rMeet_0 c d 0 63) (S.rMeet_1 c d 0 63) = true, .agg [.int true .i64 (S.rMeet_0 c d 0 63), .int true .i64 (S.rMeet_1 c d 0 63)], []) := by kernel_rfl
theorem S.rshl_r1 (a b c d : Int) : run (envC prog imA 300 {} S.o_rrest) 65 [.str false ⟨#[60, 60]⟩, .agg [.int true .i64 a, .int true .i64 b], .agg [.int true .i64 c, .int true .i64 d]] [] [.br false, .br true] = some ((True ∧ S.rEmpty (S.rMeet_0 c d 0 63) (S.rMeet_1 c d 0 63) = false) ∧ (S.rMeet_0 c d 0 63 != S.rMeet_1 c d 0 63) = true, .agg [.int false .i64 (-9223372036854775808), .int false .i64 9223372036854775807], []) := by kernel_rfl
theorem S.rshl_r2 (a b c d : Int) : run (envC prog imA 300 {} S.o_rrest) 65 [.str false ⟨#[60, 60]⟩, .agg [.int true .i64 a, .int true .i64 b], .agg [.int true .i64 c, .int true .i64 d]] [] [.br false, .br false, .br true] = some (((True ∧ S.rEmpty (S.rMeet_0 c d 0 63) (S.rMeet_1 c d 0 63) = false) ∧ (S.rMeet_0 c d 0 63 != S.rMeet_1 c d 0 63) = false) ∧ (S.rMeet_0 c d 0 63 == 63) = true, .agg [.int false .i64 (-9223372036854775808), .int false .i64 9223372036854775807], []) := by kernel_rfl
theorem S.rshl_r3 (a b c d : Int) : run (envC prog imA 300 {} S.o_rrest) 65 [.str false ⟨#[60, 60]⟩, .agg [.int true .i64 a, .int true .i64 b], .agg [.int true .i64 c, .int true .i64 d]] [] [.br false, .br false, .br false, .br true, .br true, .br true] = some ((((((True ∧ S.rEmpty (S.rMeet_0 c d 0 63) (S.rMeet_1 c d 0 63) = false) ∧ (S.rMeet_0 c d 0 63 != S.rMeet_1 c d 0 63) = false) ∧ (S.rMeet_0 c d 0 63 == 63) = false) ∧ decide (0 ≤ IntKind.wrap .u64 (S.rMeet_0 c d 0 63)) = true) ∧ decide (0 ≤ IntKind.wrap .u64 (S.rMeet_0 c d 0 63)) = true) ∧ (!S.wimul a b (IntKind.wrap .i64 (1 * 2 ^ min (Int.toNat (IntKind.wrap .u64 (S.rMeet_0 c d 0 63))) (IntKind.bits .i64))) (IntKind.wrap .i64 (1 * 2 ^ min (Int.toNat (IntKind.wrap .u64 (S.rMeet_0 c d 0 63))) (IntKind.bits .i64)))) = true, .agg [.int false .i64 (-9223372036854775808), .int false .i64 9223372036854775807], []) := by kernel_rfl
theorem S.rshl_r4 (a b c d : Int) : run (envC prog imA 300 {} S.o_rrest) 65 [.str false ⟨#[60, 60]⟩, .agg [.int true .i64 a, .int true .i64 b], .agg [.int true .i64 c, .int true .i64 d]] [] [.br false, .br false, .br false, .br true, .br true, .br false] = some ((((((True ∧ S.rEmpty (S.rMeet_0 c d 0 63) (S.rMeet_1 c d 0 63) = false) ∧ (S.rMeet_0 c d 0 63 != S.rMeet_1 c d 0 63) = false) ∧ (S.rMeet_0 c d 0 63 == 63) = false) ∧ decide (0 ≤ IntKind.wrap .u64 (S.rMeet_0 c d 0 63)) = true) ∧ decide (0 ≤ IntKind.wrap .u64 (S.rMeet_0 c d 0 63)) = true) ∧ (!S.wimul a b (IntKind.wrap .i64 (1 * 2 ^ min (Int.toNat (IntKind.wrap .u64 (S.rMeet_0 c d 0 63))) (IntKind.bits .i64))) (IntKind.wrap .i64 (1 * 2 ^ min (Int.toNat (IntKind.wrap .u64 (S.rMeet_0 c d 0 63))) (IntKind.bits .i64)))) = false, .agg [.int true .i64 (S.remul_0 a b (IntKind.wrap .i64 (1 * 2 ^ min (Int.toNat (IntKind.wrap .u64 (S.rMeet_0 c d 0 63))) (IntKind.bits .i64))) (IntKind.wrap .i64 (1 * 2 ^ min (Int.toNat (IntKind.wrap .u64 (S.rMeet_0 c d 0 63))) (IntKind.bits .i64)))), .int true .i64 (S.remul_1 a b (IntKind.wrap .i64 (1 * 2 ^ min (Int.toNat (IntKind.wrap .u64 (S.rMeet_0 c d 0 63))) (IntKind.bits .i64))) (IntKind.wrap .i64 (1 * 2 ^ min (Int.toNat (IntKind.wrap .u64 (S.rMeet_0 c d 0 63))) (IntKind.bits .i64))))], []) := by kernel_rfl
theorem S.rshl_sim (a b c d : Int) : Sim prog 65 [.str true ⟨#[60, 60]⟩, .agg [.int true .i64 a, .int true .i64 b], .agg [.int true .i64 c, .int true .i64 d]] [] (.agg [.int true .i64 (S.rshl_0 a b c d), .int true .i64 (S.rshl_1 a b c d)]) [] := by
 refine Sim.args (args' := [.str false ⟨#[60, 60]⟩, .agg [.int true .i64 a, .int true .i64 b], .agg [.int true .i64 c, .int true .i64 d]]) ?_ (.cons (Says.str rfl) (.cons (Says.refl _) (.cons (Says.refl _) (.nil))))
 rcases Bool.eq_false_or_eq_true (S.rEmpty (S.rMeet_0 c d 0 63) (S.rMeet_1 c d 0 63)) with h0 | h0
 ·
  exact (sim_run (S.hE S.o_rrest_ok) (S.rshl_r0 a b c d) ⟨trivial, h0⟩).says (Says.agg (.cons (Says.int (by simp only [S.rshl_0, h0, cond_true, cond_false])) (.cons (Says.int (by simp only [S.rshl_1, h0, cond_true, cond_false])) (.nil))))
 ·
  rcases Bool.eq_false_or_eq_true (S.rMeet_0 c d 0 63 != S.rMeet_1 c d 0 63) with h1 | h1
  ·
   exact (sim_run (S.hE S.o_rrest_ok) (S.rshl_r1 a b c d) ⟨⟨trivial, h0⟩, h1⟩).says (Says.agg (.cons (Says.int (by simp only [S.rshl_0, h1, h0, cond_true, cond_false])) (.cons (Says.int (by simp only [S.rshl_1, h1, h0, cond_true, cond_false])) (.nil))))
  ·
   rcases Bool.eq_false_or_eq_true (S.rMeet_0 c d 0 63 == 63) with h2 | h2
   ·
    exact (sim_run (S.hE S.o_rrest_ok) (S.rshl_r2 a b c d) ⟨⟨⟨trivial, h0⟩, h1⟩, h2⟩).says (Says.agg (.cons (Says.int (by simp only [S.rshl_0, h2, h1, h0, cond_true, cond_false])) (.cons (Says.int (by simp only [S.rshl_1, h2, h1, h0, cond_true, cond_false])) (.nil))))
   ·
    rcases Bool.eq_false_or_eq_true (decide (0 ≤ IntKind.wrap .u64 (S.rMeet_0 c d 0 63))) with h3 | h3
    ·
     rcases Bool.eq_false_or_eq_true (!S.wimul a b (IntKind.wrap .i64 (1 * 2 ^ min (Int.toNat (IntKind.wrap .u64 (S.rMeet_0 c d 0 63))) (IntKind.bits .i64))) (IntKind.wrap .i64 (1 * 2 ^ min (Int.toNat (IntKind.wrap .u64 (S.rMeet_0 c d 0 63))) (IntKind.bits .i64)))) with h4 | h4
     ·
      exact (sim_run (S.hE S.o_rrest_ok) (S.rshl_r3 a b c d) ⟨⟨⟨⟨⟨⟨trivial, h0⟩, h1⟩, h2⟩, h3⟩, h3⟩, h4⟩).says (Says.agg (.cons (Says.int (by simp only [S.rshl_0, h4, h3, h2, h1, h0, cond_true, cond_false])) (.cons (Says.int (by simp only [S.rshl_1, h4, h3, h2, h1, h0, cond_true, cond_false])) (.nil))))
     ·
      exact (sim_run (S.hE S.o_rrest_ok) (S.rshl_r4 a b c d) ⟨⟨⟨⟨⟨⟨trivial, h0⟩, h1⟩, h2⟩, h3⟩, h3⟩, h4⟩).says (Says.agg (.cons (Says.int (by simp only [S.rshl_0, h4, h3, h2, h1, h0, cond_true, cond_false])) (.cons (Says.int (by simp only [S.rshl_1, h4, h3, h2, h1, h0, cond_true, cond_false])) (.nil))))
    ·
     exfalso; first | (rw [S.u64_nonneg] at h3; cases h3) | (simp_all only [bne, Bool.not_false, Bool.not_true]; done) | (simp only [bne, Bool.not_false, Bool.not_true] at * <;> simp_all)
def S.o_rshl : Orc := orcAdd 65 (fun | [.str true t0, .agg [.int true .i64 a, .int true .i64 b], .agg [.int true .i64 c, .int true .i64 d]] => (match t0.data.toList == [60, 60] with | true => some (.agg [.int true .i64 (S.rshl_0 a b c d), .int true .i64 (S.rshl_1 a b c d)]) | false => none) | _ => none) S.o_rrest
theorem S.o_rshl_ok : OrcOk prog S.o_rshl := orcAdd_ok S.o_rrest_ok fun a v h => by
  try dsimp only at h
  split at h
  · rename_i t0 a b c d
    split at h
    · rename_i ht; cases h; have ht0 := ht; obtain rfl := ba_eq ht0; exact S.rshl_sim a b c d
    · cases h
  · cases h
def S.rshr_0 (a b c d : Int) : Int := (bif S.rEmpty (S.rMeet_0 c d 0 63) (S.rMeet_1 c d 0 63) then (S.rMeet_0 c d 0 63) else (S.reright_0 a b (S.rMeet_0 c d 0 63) (S.rMeet_1 c d 0 63)))
def S.rshr_1 (a b c d : Int) : Int := (bif S.rEmpty (S.rMeet_0 c d 0 63) (S.rMeet_1 c d 0 63) then (S.rMeet_1 c d 0 63) else (S.reright_1 a b (S.rMeet_0 c d 0 63) (S.rMeet_1 c d 0 63)))
theorem S.rshr_r0 (a b c d : Int) : run (envC prog imA 300 {} S.o_rshl) 65 [.str false ⟨#[62, 62]⟩, .agg [.int true .i64 a, .int true .i64 b], .agg [.int true .i64 c, .int true .i64 d]] [] [.br true] = some (True ∧ S.rEmpty (S.rMeet_0 c d 0 63) (S.rMeet_1 c d 0 63) = true, .agg [.int true .i64 (S.rMeet_0 c d 0 63), .int true .i64 (S.rMeet_1 c d 0 63)], []) := by kernel_rfl
theorem S.rshr_r1 (a b c d : Int) : run (envC prog imA 300 {} S.o_rshl) 65 [.str false ⟨#[62, 62]⟩, .agg [.int true .i64 a, .int true .i64 b], .agg [.int true .i64 c, .int true .i64 d]] [] [.br false] = some (True ∧ S.rEmpty (S.rMeet_0 c d 0 63) (S.rMeet_1 c d 0 63) = false, .agg [.int true .i64 (S.reright_0 a b (S.rMeet_0 c d 0 63) (S.rMeet_1 c d 0 63)), .int true .i64 (S.reright_1 a b (S.rMeet_0 c d 0 63) (S.rMeet_1 c d 0 63))], []) := by kernel_rfl
theorem S.rshr_sim (a b c d : Int) : Sim prog 65 [.str true ⟨#[62, 62]⟩, .agg [.int true .i64 a, .int true .i64 b], .agg [.int true .i64 c, .int true .i64 d]] [] (.agg [.int true .i64 (S.rshr_0 a b c d), .int true .i64 (S.rshr_1 a b c d)]) [] := by
 refine Sim.args (args' := [.str false ⟨#[62, 62]⟩, .agg [.int true .i64 a, .int true .i64 b], .agg [.int true .i64 c, .int true .i64 d]]) ?_ (.cons (Says.str rfl) (.cons (Says.refl _) (.cons (Says.refl _) (.nil))))
 rcases Bool.eq_false_or_eq_true (S.rEmpty (S.rMeet_0 c d 0 63) (S.rMeet_1 c d 0 63)) with h0 | h0
 ·
  exact (sim_run (S.hE S.o_rshl_ok) (S.rshr_r0 a b c d) ⟨trivial, h0⟩).says (Says.agg (.cons (Says.int (by simp only [S.rshr_0, h0, cond_true, cond_false])) (.cons (Says.int (by simp only [S.rshr_1, h0, cond_true, cond_false])) (.nil))))
 ·
  exact (sim_run (S.hE S.o_rshl_ok) (S.rshr_r1 a b c d) ⟨trivial, h0⟩).says (Says.agg (.cons (Says.int (by simp only [S.rshr_0, h0, cond_true, cond_false])) (.cons (Says.int (by simp only [S.rshr_1, h0, cond_true, cond_false])) (.nil))))
def S.o_rshr : Orc := orcAdd 65 (fun | [.str true t0, .agg [.int true .i64 a, .int true .i64 b], .agg [.int true .i64 c, .int true .i64 d]] => (match t0.data.toList == [62, 62] with | true => some (.agg [.int true .i64 (S.rshr_0 a b c d), .int true .i64 (S.rshr_1 a b c d)]) | false => none) | _ => none) S.o_rshl
theorem S.o_rshr_ok : OrcOk prog S.o_rshr := orcAdd_ok S.o_rshl_ok fun a v h => by
  try dsimp only at h
  split at h
  · rename_i t0 a b c d
    split at h
    · rename_i ht; cases h; have ht0 := ht; obtain rfl := ba_eq ht0; exact S.rshr_sim a b c d
    · cases h
  · cases h
def S.rclt_0 (a b c d : Int) : Int := (S.rtold_0 (decide (b ≥ c)) (decide (a < d)))
def S.rclt_1 (a b c d : Int) : Int := (S.rtold_1 (decide (b ≥ c)) (decide (a < d)))
theorem S.rclt_r0 (a b c d : Int) : run (envC prog imA 300 {} S.o_rshr) 66 [.str false ⟨#[60]⟩, .agg [.int true .i64 a, .int true .i64 b], .agg [.int true .i64 c, .int true .i64 d]] [] [.br true] = some (True ∧ (a == b) = true, .agg [.int true .i64 (S.rtold_0 (decide (b ≥ c)) (decide (a < d))), .int true .i64 (S.rtold_1 (decide (b ≥ c)) (decide (a < d)))], []) := by kernel_rfl
theorem S.rclt_r1 (a b c d : Int) : run (envC prog imA 300 {} S.o_rshr) 66 [.str false ⟨#[60]⟩, .agg [.int true .i64 a, .int true .i64 b], .agg [.int true .i64 c, .int true .i64 d]] [] [.br false] = some (True ∧ (a == b) = false, .agg [.int true .i64 (S.rtold_0 (decide (b ≥ c)) (decide (a < d))), .int true .i64 (S.rtold_1 (decide (b ≥ c)) (decide (a < d)))], []) := by kernel_rfl
theorem S.rclt_sim (a b c d : Int) : Sim prog 66 [.str true ⟨#[60]⟩, .agg [.int true .i64 a, .int true .i64 b], .agg [.int true .i64 c, .int true .i64 d]] [] (.agg [.int true .i64 (S.rclt_0 a b c d), .int true .i64 (S.rclt_1 a b c d)]) [] := by
 refine Sim.args (args' := [.str false ⟨#[60]⟩, .agg [.int true .i64 a, .int true .i64 b], .agg [.int true .i64 c, .int true .i64 d]]) ?_ (.cons (Says.str rfl) (.cons (Says.refl _) (.cons (Says.refl _) (.nil))))
 rcases Bool.eq_false_or_eq_true (a == b) with h0 | h0
 ·
  exact (sim_run (S.hE S.o_rshr_ok) (S.rclt_r0 a b c d) ⟨trivial, h0⟩).says (Says.agg (.cons (Says.int (by simp only [S.rclt_0, h0, cond_true, cond_false])) (.cons (Says.int (by simp only [S.rclt_1, h0, cond_true, cond_false])) (.nil))))
 ·
  exact (sim_run (S.hE S.o_rshr_ok) (S.rclt_r1 a b c d) ⟨trivial, h0⟩).says (Says.agg (.cons (Says.int (by simp only [S.rclt_0, h0, cond_true, cond_false])) (.cons (Says.int (by simp only [S.rclt_1, h0, cond_true, cond_false])) (.nil))))
def S.o_rclt : Orc := orcAdd 66 (fun | [.str true t0, .agg [.int true .i64 a, .int true .i64 b], .agg [.int true .i64 c, .int true .i64 d]] => (match t0.data.toList == [60] with | true => some (.agg [.int true .i64 (S.rclt_0 a b c d), .int true .i64 (S.rclt_1 a b c d)]) | false => none) | _ => none) S.o_rshr
theorem S.o_rclt_ok : OrcOk prog S.o_rclt := orcAdd_ok S.o_rshr_ok fun a v h => by
  try dsimp only at h
  split at h
  · rename_i t0 a b c d
    split at h
    · rename_i ht; cases h; have ht0 := ht; obtain rfl := ba_eq ht0; exact S.rclt_sim a b c d
    · cases h
  · cases h
def S.rcle_0 (a b c d : Int) : Int := (S.rtold_0 (decide (b > c)) (decide (a ≤ d)))
def S.rcle_1 (a b c d : Int) : Int := (S.rtold_1 (decide (b > c)) (decide (a ≤ d)))
theorem S.rcle_r0 (a b c d : Int) : run (envC prog imA 300 {} S.o_rclt) 66 [.str false ⟨#[60, 61]⟩, .agg [.int true .i64 a, .int true .i64 b], .agg [.int true .i64 c, .int true .i64 d]] [] [.br true] = some (True ∧ (a == b) = true, .agg [.int true .i64 (S.rtold_0 (decide (b > c)) (decide (a ≤ d))), .int true .i64 (S.rtold_1 (decide (b > c)) (decide (a ≤ d)))], []) := by kernel_rfl
theorem S.rcle_r1 (a b c d : Int) : run (envC prog imA 300 {} S.o_rclt) 66 [.str false ⟨#[60, 61]⟩, .agg [.int true .i64 a, .int true .i64 b], .agg [.int true .i64 c, .int true .i64 d]] [] [.br false] = some (True ∧ (a == b) = false, .agg [.int true .i64 (S.rtold_0 (decide (b > c)) (decide (a ≤ d))), .int true .i64 (S.rtold_1 (decide (b > c)) (decide (a ≤ d)))], []) := by kernel_rfl
theorem S.rcle_sim (a b c d : Int) : Sim prog 66 [.str true ⟨#[60, 61]⟩, .agg [.int true .i64 a, .int true .i64 b], .agg [.int true .i64 c, .int true .i64 d]] [] (.agg [.int true .i64 (S.rcle_0 a b c d), .int true .i64 (S.rcle_1 a b c d)]) [] := by
 refine Sim.args (args' := [.str false ⟨#[60, 61]⟩, .agg [.int true .i64 a, .int true .i64 b], .agg [.int true .i64 c, .int true .i64 d]]) ?_ (.cons (Says.str rfl) (.cons (Says.refl _) (.cons (Says.refl _) (.nil))))
 rcases Bool.eq_false_or_eq_true (a == b) with h0 | h0
 ·
  exact (sim_run (S.hE S.o_rclt_ok) (S.rcle_r0 a b c d) ⟨trivial, h0⟩).says (Says.agg (.cons (Says.int (by simp only [S.rcle_0, h0, cond_true, cond_false])) (.cons (Says.int (by simp only [S.rcle_1, h0, cond_true, cond_false])) (.nil))))
 ·
  exact (sim_run (S.hE S.o_rclt_ok) (S.rcle_r1 a b c d) ⟨trivial, h0⟩).says (Says.agg (.cons (Says.int (by simp only [S.rcle_0, h0, cond_true, cond_false])) (.cons (Says.int (by simp only [S.rcle_1, h0, cond_true, cond_false])) (.nil))))
def S.o_rcle : Orc := orcAdd 66 (fun | [.str true t0, .agg [.int true .i64 a, .int true .i64 b], .agg [.int true .i64 c, .int true .i64 d]] => (match t0.data.toList == [60, 61] with | true => some (.agg [.int true .i64 (S.rcle_0 a b c d), .int true .i64 (S.rcle_1 a b c d)]) | false => none) | _ => none) S.o_rclt
theorem S.o_rcle_ok : OrcOk prog S.o_rcle := orcAdd_ok S.o_rclt_ok fun a v h => by
  try dsimp only at h
  split at h
  · rename_i t0 a b c d
    split at h
    · rename_i ht; cases h; have ht0 := ht; obtain rfl := ba_eq ht0; exact S.rcle_sim a b c d
    · cases h
  · cases h
def S.rcgt_0 (a b c d : Int) : Int := (S.rtold_0 (decide (a ≤ d)) (decide (b > c)))
def S.rcgt_1 (a b c d : Int) : Int := (S.rtold_1 (decide (a ≤ d)) (decide (b > c)))
theorem S.rcgt_r0 (a b c d : Int) : run (envC prog imA 300 {} S.o_rcle) 66 [.str false ⟨#[62]⟩, .agg [.int true .i64 a, .int true .i64 b], .agg [.int true .i64 c, .int true .i64 d]] [] [.br true] = some (True ∧ (a == b) = true, .agg [.int true .i64 (S.rtold_0 (decide (a ≤ d)) (decide (b > c))), .int true .i64 (S.rtold_1 (decide (a ≤ d)) (decide (b > c)))], []) := by kernel_rfl
theorem S.rcgt_r1 (a b c d : Int) : run (envC prog imA 300 {} S.o_rcle) 66 [.str false ⟨#[62]⟩, .agg [.int true .i64 a, .int true .i64 b], .agg [.int true .i64 c, .int true .i64 d]] [] [.br false] = some (True ∧ (a == b) = false, .agg [.int true .i64 (S.rtold_0 (decide (a ≤ d)) (decide (b > c))), .int true .i64 (S.rtold_1 (decide (a ≤ d)) (decide (b > c)))], []) := by kernel_rfl
theorem S.rcgt_sim (a b c d : Int) : Sim prog 66 [.str true ⟨#[62]⟩, .agg [.int true .i64 a, .int true .i64 b], .agg [.int true .i64 c, .int true .i64 d]] [] (.agg [.int true .i64 (S.rcgt_0 a b c d), .int true .i64 (S.rcgt_1 a b c d)]) [] := by
 refine Sim.args (args' := [.str false ⟨#[62]⟩, .agg [.int true .i64 a, .int true .i64 b], .agg [.int true .i64 c, .int true .i64 d]]) ?_ (.cons (Says.str rfl) (.cons (Says.refl _) (.cons (Says.refl _) (.nil))))
 rcases Bool.eq_false_or_eq_true (a == b) with h0 | h0
 ·
  exact (sim_run (S.hE S.o_rcle_ok) (S.rcgt_r0 a b c d) ⟨trivial, h0⟩).says (Says.agg (.cons (Says.int (by simp only [S.rcgt_0, h0, cond_true, cond_false])) (.cons (Says.int (by simp only [S.rcgt_1, h0, cond_true, cond_false])) (.nil))))
 ·
  exact (sim_run (S.hE S.o_rcle_ok) (S.rcgt_r1 a b c d) ⟨trivial, h0⟩).says (Says.agg (.cons (Says.int (by simp only [S.rcgt_0, h0, cond_true, cond_false])) (.cons (Says.int (by simp only [S.rcgt_1, h0, cond_true, cond_false])) (.nil))))
def S.o_rcgt : Orc := orcAdd 66 (fun | [.str true t0, .agg [.int true .i64 a, .int true .i64 b], .agg [.int true .i64 c, .int true .i64 d]] => (match t0.data.toList == [62] with | true => some (.agg [.int true .i64 (S.rcgt_0 a b c d), .int true .i64 (S.rcgt_1 a b c d)]) | false => none) | _ => none) S.o_rcle
theorem S.o_rcgt_ok : OrcOk prog S.o_rcgt := orcAdd_ok S.o_rcle_ok fun a v h => by
  try dsimp only at h
  split at h
  · rename_i t0 a b c d
    split at h
    · rename_i ht; cases h; have ht0 := ht; obtain rfl := ba_eq ht0; exact S.rcgt_sim a b c d
    · cases h
  · cases h
def S.rcge_0 (a b c d : Int) : Int := (S.rtold_0 (decide (a < d)) (decide (b ≥ c)))
def S.rcge_1 (a b c d : Int) : Int := (S.rtold_1 (decide (a < d)) (decide (b ≥ c)))
theorem S.rcge_r0 (a b c d : Int) : run (envC prog imA 300 {} S.o_rcgt) 66 [.str false ⟨#[62, 61]⟩, .agg [.int true .i64 a, .int true .i64 b], .agg [.int true .i64 c, .int true .i64 d]] [] [.br true] = some (True ∧ (a == b) = true, .agg [.int true .i64 (S.rtold_0 (decide (a < d)) (decide (b ≥ c))), .int true .i64 (S.rtold_1 (decide (a < d)) (decide (b ≥ c)))], []) := by kernel_rfl
theorem S.rcge_r1 (a b c d : Int) : run (envC prog imA 300 {} S.o_rcgt) 66 [.str false ⟨#[62, 61]⟩, .agg [.int true .i64 a, .int true .i64 b], .agg [.int true .i64 c, .int true .i64 d]] [] [.br false] = some (True ∧ (a == b) = false, .agg [.int true .i64 (S.rtold_0 (decide (a < d)) (decide (b ≥ c))), .int true .i64 (S.rtold_1 (decide (a < d)) (decide (b ≥ c)))], []) := by kernel_rfl
theorem S.rcge_sim (a b c d : Int) : Sim prog 66 [.str true ⟨#[62, 61]⟩, .agg [.int true .i64 a, .int true .i64 b], .agg [.int true .i64 c, .int true .i64 d]] [] (.agg [.int true .i64 (S.rcge_0 a b c d), .int true .i64 (S.rcge_1 a b c d)]) [] := by
 refine Sim.args (args' := [.str false ⟨#[62, 61]⟩, .agg [.int true .i64 a, .int true .i64 b], .agg [.int true .i64 c, .int true .i64 d]]) ?_ (.cons (Says.str rfl) (.cons (Says.refl _) (.cons (Says.refl _) (.nil))))
 rcases Bool.eq_false_or_eq_true (a == b) with h0 | h0
 ·
  exact (sim_run (S.hE S.o_rcgt_ok) (S.rcge_r0 a b c d) ⟨trivial, h0⟩).says (Says.agg (.cons (Says.int (by simp only [S.rcge_0, h0, cond_true, cond_false])) (.cons (Says.int (by simp only [S.rcge_1, h0, cond_true, cond_false])) (.nil))))
 ·
  exact (sim_run (S.hE S.o_rcgt_ok) (S.rcge_r1 a b c d) ⟨trivial, h0⟩).says (Says.agg (.cons (Says.int (by simp only [S.rcge_0, h0, cond_true, cond_false])) (.cons (Says.int (by simp only [S.rcge_1, h0, cond_true, cond_false])) (.nil))))
def S.o_rcge : Orc := orcAdd 66 (fun | [.str true t0, .agg [.int true .i64 a, .int true .i64 b], .agg [.int true .i64 c, .int true .i64 d]] => (match t0.data.toList == [62, 61] with | true => some (.agg [.int true .i64 (S.rcge_0 a b c d), .int true .i64 (S.rcge_1 a b c d)]) | false => none) | _ => none) S.o_rcgt
theorem S.o_rcge_ok : OrcOk prog S.o_rcge := orcAdd_ok S.o_rcgt_ok fun a v h => by
  try dsimp only at h
  split at h
  · rename_i t0 a b c d
    split at h
    · rename_i ht; cases h; have ht0 := ht; obtain rfl := ba_eq ht0; exact S.rcge_sim a b c d
    · cases h
  · cases h
def S.rceq_0 (a b c d : Int) : Int := (bif a == b then (bif !S.rEmpty (S.rMeet_0 a b c d) (S.rMeet_1 a b c d) then (S.rtold_0 (!c == d) !S.rEmpty (S.rMeet_0 a b c d) (S.rMeet_1 a b c d)) else (S.rtold_0 (!false) !S.rEmpty (S.rMeet_0 a b c d) (S.rMeet_1 a b c d))) else (S.rtold_0 (!false) !S.rEmpty (S.rMeet_0 a b c d) (S.rMeet_1 a b c d)))
def S.rceq_1 (a b c d : Int) : Int := (bif a == b then (bif !S.rEmpty (S.rMeet_0 a b c d) (S.rMeet_1 a b c d) then (S.rtold_1 (!c == d) !S.rEmpty (S.rMeet_0 a b c d) (S.rMeet_1 a b c d)) else (S.rtold_1 (!false) !S.rEmpty (S.rMeet_0 a b c d) (S.rMeet_1 a b c d))) else (S.rtold_1 (!false) !S.rEmpty (S.rMeet_0 a b c d) (S.rMeet_1 a b c d)))
theorem S.rceq_r0 (a b c d : Int) : run (envC prog imA 300 {} S.o_rcge) 66 [.str false ⟨#[61, 61]⟩, .agg [.int true .i64 a, .int true .i64 b], .agg [.int true .i64 c, .int true .i64 d]] [] [.br true, .br true] = some ((True ∧ (a == b) = true) ∧ (!S.rEmpty (S.rMeet_0 a b c d) (S.rMeet_1 a b c d)) = true, .agg [.int true .i64 (S.rtold_0 (!c == d) !S.rEmpty (S.rMeet_0 a b c d) (S.rMeet_1 a b c d)), .int true .i64 (S.rtold_1 (!c == d) !S.rEmpty (S.rMeet_0 a b c d) (S.rMeet_1 a b c d))], []) := by kernel_rfl
theorem S.rceq_r1 (a b c d : Int) : run (envC prog imA 300 {} S.o_rcge) 66 [.str false ⟨#[61, 61]⟩, .agg [.int true .i64 a, .int true .i64 b], .agg [.int true .i64 c, .int true .i64 d]] [] [.br false, .br true] = some ((True ∧ (a == b) = false) ∧ (!S.rEmpty (S.rMeet_0 a b c d) (S.rMeet_1 a b c d)) = true, .agg [.int true .i64 (S.rtold_0 (!false) !S.rEmpty (S.rMeet_0 a b c d) (S.rMeet_1 a b c d)), .int true .i64 (S.rtold_1 (!false) !S.rEmpty (S.rMeet_0 a b c d) (S.rMeet_1 a b c d))], []) := by kernel_rfl
theorem S.rceq_r2 (a b c d : Int) : run (envC prog imA 300 {} S.o_rcge) 66 [.str false ⟨#[61, 61]⟩, .agg [.int true .i64 a, .int true .i64 b], .agg [.int true .i64 c, .int true .i64 d]] [] [.br false, .br false] = some ((True ∧ (a == b) = false) ∧ (!S.rEmpty (S.rMeet_0 a b c d) (S.rMeet_1 a b c d)) = false, .agg [.int true .i64 (S.rtold_0 (!false) !S.rEmpty (S.rMeet_0 a b c d) (S.rMeet_1 a b c d)), .int true .i64 (S.rtold_1 (!false) !S.rEmpty (S.rMeet_0 a b c d) (S.rMeet_1 a b c d))], []) := by kernel_rfl
theorem S.rceq_r3 (a b c d : Int) : run (envC prog imA 300 {} S.o_rcge) 66 [.str false ⟨#[61, 61]⟩, .agg [.int true .i64 a, .int true .i64 b], .agg [.int true .i64 c, .int true .i64 d]] [] [.br true, .br false] = some ((True ∧ (a == b) = true) ∧ (!S.rEmpty (S.rMeet_0 a b c d) (S.rMeet_1 a b c d)) = false, .agg [.int true .i64 (S.rtold_0 (!false) !S.rEmpty (S.rMeet_0 a b c d) (S.rMeet_1 a b c d)), .int true .i64 (S.rtold_1 (!false) !S.rEmpty (S.rMeet_0 a b c d) (S.rMeet_1 a b c d))], []) := by kernel_rfl
theorem S.rceq_sim (a b c d : Int) : Sim prog 66 [.str true ⟨#[61, 61]⟩, .agg [.int true .i64 a, .int true .i64 b], .agg [.int true .i64 c, .int true .i64 d]] [] (.agg [.int true .i64 (S.rceq_0 a b c d), .int true .i64 (S.rceq_1 a b c d)]) [] := by
 refine Sim.args (args' := [.str false ⟨#[61, 61]⟩, .agg [.int true .i64 a, .int true .i64 b], .agg [.int true .i64 c, .int true .i64 d]]) ?_ (.cons (Says.str rfl) (.cons (Says.refl _) (.cons (Says.refl _) (.nil))))
 rcases Bool.eq_false_or_eq_true (a == b) with h0 | h0
 ·
  rcases Bool.eq_false_or_eq_true (!S.rEmpty (S.rMeet_0 a b c d) (S.rMeet_1 a b c d)) with h1 | h1
  ·
   exact (sim_run (S.hE S.o_rcge_ok) (S.rceq_r0 a b c d) ⟨⟨trivial, h0⟩, h1⟩).says (Says.agg (.cons (Says.int (by simp only [S.rceq_0, h1, h0, cond_true, cond_false])) (.cons (Says.int (by simp only [S.rceq_1, h1, h0, cond_true, cond_false])) (.nil))))
  ·
   exact (sim_run (S.hE S.o_rcge_ok) (S.rceq_r3 a b c d) ⟨⟨trivial, h0⟩, h1⟩).says (Says.agg (.cons (Says.int (by simp only [S.rceq_0, h1, h0, cond_true, cond_false])) (.cons (Says.int (by simp only [S.rceq_1, h1, h0, cond_true, cond_false])) (.nil))))
 ·
  rcases Bool.eq_false_or_eq_true (!S.rEmpty (S.rMeet_0 a b c d) (S.rMeet_1 a b c d)) with h1 | h1
  ·
   exact (sim_run (S.hE S.o_rcge_ok) (S.rceq_r1 a b c d) ⟨⟨trivial, h0⟩, h1⟩).says (Says.agg (.cons (Says.int (by simp only [S.rceq_0, h1, h0, cond_true, cond_false])) (.cons (Says.int (by simp only [S.rceq_1, h1, h0, cond_true, cond_false])) (.nil))))
  ·
   exact (sim_run (S.hE S.o_rcge_ok) (S.rceq_r2 a b c d) ⟨⟨trivial, h0⟩, h1⟩).says (Says.agg (.cons (Says.int (by simp only [S.rceq_0, h1, h0, cond_true, cond_false])) (.cons (Says.int (by simp only [S.rceq_1, h1, h0, cond_true, cond_false])) (.nil))))
def S.o_rceq : Orc := orcAdd 66 (fun | [.str true t0, .agg [.int true .i64 a, .int true .i64 b], .agg [.int true .i64 c, .int true .i64 d]] => (match t0.data.toList == [61, 61] with | true => some (.agg [.int true .i64 (S.rceq_0 a b c d), .int true .i64 (S.rceq_1 a b c d)]) | false => none) | _ => none) S.o_rcge
theorem S.o_rceq_ok : OrcOk prog S.o_rceq := orcAdd_ok S.o_rcge_ok fun a v h => by
  try dsimp only at h
  split at h
  · rename_i t0 a b c d
    split at h
    · rename_i ht; cases h; have ht0 := ht; obtain rfl := ba_eq ht0; exact S.rceq_sim a b c d
    · cases h
  · cases h
def S.rcne_0 (a b c d : Int) : Int := (bif a == b then (bif !S.rEmpty (S.rMeet_0 a b c d) (S.rMeet_1 a b c d) then (S.rtold_0 (!S.rEmpty (S.rMeet_0 a b c d) (S.rMeet_1 a b c d)) !c == d) else (S.rtold_0 (!S.rEmpty (S.rMeet_0 a b c d) (S.rMeet_1 a b c d)) !false)) else (S.rtold_0 (!S.rEmpty (S.rMeet_0 a b c d) (S.rMeet_1 a b c d)) !false))
def S.rcne_1 (a b c d : Int) : Int := (bif a == b then (bif !S.rEmpty (S.rMeet_0 a b c d) (S.rMeet_1 a b c d) then (S.rtold_1 (!S.rEmpty (S.rMeet_0 a b c d) (S.rMeet_1 a b c d)) !c == d) else (S.rtold_1 (!S.rEmpty (S.rMeet_0 a b c d) (S.rMeet_1 a b c d)) !false)) else (S.rtold_1 (!S.rEmpty (S.rMeet_0 a b c d) (S.rMeet_1 a b c d)) !false))
theorem S.rcne_r0 (a b c d : Int) : run (envC prog imA 300 {} S.o_rceq) 66 [.str false ⟨#[33, 61]⟩, .agg [.int true .i64 a, .int true .i64 b], .agg [.int true .i64 c, .int true .i64 d]] [] [.br true, .br true] = some ((True ∧ (a == b) = true) ∧ (!S.rEmpty (S.rMeet_0 a b c d) (S.rMeet_1 a b c d)) = true, .agg [.int true .i64 (S.rtold_0 (!S.rEmpty (S.rMeet_0 a b c d) (S.rMeet_1 a b c d)) !c == d), .int true .i64 (S.rtold_1 (!S.rEmpty (S.rMeet_0 a b c d) (S.rMeet_1 a b c d)) !c == d)], []) := by kernel_rfl
theorem S.rcne_r1 (a b c d : Int) : run (envC prog imA 300 {} S.o_rceq) 66 [.str false ⟨#[33, 61]⟩, .agg [.int true .i64 a, .int true .i64 b], .agg [.int true .i64 c, .int true .i64 d]] [] [.br false, .br true] = some ((True ∧ (a == b) = false) ∧ (!S.rEmpty (S.rMeet_0 a b c d) (S.rMeet_1 a b c d)) = true, .agg [.int true .i64 (S.rtold_0 (!S.rEmpty (S.rMeet_0 a b c d) (S.rMeet_1 a b c d)) !false), .int true .i64 (S.rtold_1 (!S.rEmpty (S.rMeet_0 a b c d) (S.rMeet_1 a b c d)) !false)], []) := by kernel_rfl
theorem S.rcne_r2 (a b c d : Int) : run (envC prog imA 300 {} S.o_rceq) 66 [.str false ⟨#[33, 61]⟩, .agg [.int true .i64 a, .int true .i64 b], .agg [.int true .i64 c, .int true .i64 d]] [] [.br false, .br false] = some ((True ∧ (a == b) = false) ∧ (!S.rEmpty (S.rMeet_0 a b c d) (S.rMeet_1 a b c d)) = false, .agg [.int true .i64 (S.rtold_0 (!S.rEmpty (S.rMeet_0 a b c d) (S.rMeet_1 a b c d)) !false), .int true .i64 (S.rtold_1 (!S.rEmpty (S.rMeet_0 a b c d) (S.rMeet_1 a b c d)) !false)], []) := by kernel_rfl
theorem S.rcne_r3 (a b c d : Int) : run (envC prog imA 300 {} S.o_rceq) 66 [.str false ⟨#[33, 61]⟩, .agg [.int true .i64 a, .int true .i64 b], .agg [.int true .i64 c, .int true .i64 d]] [] [.br true, .br false] = some ((True ∧ (a == b) = true) ∧ (!S.rEmpty (S.rMeet_0 a b c d) (S.rMeet_1 a b c d)) = false, .agg [.int true .i64 (S.rtold_0 (!S.rEmpty (S.rMeet_0 a b c d) (S.rMeet_1 a b c d)) !false), .int true .i64 (S.rtold_1 (!S.rEmpty (S.rMeet_0 a b c d) (S.rMeet_1 a b c d)) !false)], []) := by kernel_rfl
theorem S.rcne_sim (a b c d : Int) : Sim prog 66 [.str true ⟨#[33, 61]⟩, .agg [.int true .i64 a, .int true .i64 b], .agg [.int true .i64 c, .int true .i64 d]] [] (.agg [.int true .i64 (S.rcne_0 a b c d), .int true .i64 (S.rcne_1 a b c d)]) [] := by
 refine Sim.args (args' := [.str false ⟨#[33, 61]⟩, .agg [.int true .i64 a, .int true .i64 b], .agg [.int true .i64 c, .int true .i64 d]]) ?_ (.cons (Says.str rfl) (.cons (Says.refl _) (.cons (Says.refl _) (.nil))))
 rcases Bool.eq_false_or_eq_true (a == b) with h0 | h0
 ·
  rcases Bool.eq_false_or_eq_true (!S.rEmpty (S.rMeet_0 a b c d) (S.rMeet_1 a b c d)) with h1 | h1
  ·
   exact (sim_run (S.hE S.o_rceq_ok) (S.rcne_r0 a b c d) ⟨⟨trivial, h0⟩, h1⟩).says (Says.agg (.cons (Says.int (by simp only [S.rcne_0, h1, h0, cond_true, cond_false])) (.cons (Says.int (by simp only [S.rcne_1, h1, h0, cond_true, cond_false])) (.nil))))
  ·
   exact (sim_run (S.hE S.o_rceq_ok) (S.rcne_r3 a b c d) ⟨⟨trivial, h0⟩, h1⟩).says (Says.agg (.cons (Says.int (by simp only [S.rcne_0, h1, h0, cond_true, cond_false])) (.cons (Says.int (by simp only [S.rcne_1, h1, h0, cond_true, cond_false])) (.nil))))
 ·
  rcases Bool.eq_false_or_eq_true (!S.rEmpty (S.rMeet_0 a b c d) (S.rMeet_1 a b c d)) with h1 | h1
  ·
   exact (sim_run (S.hE S.o_rceq_ok) (S.rcne_r1 a b c d) ⟨⟨trivial, h0⟩, h1⟩).says (Says.agg (.cons (Says.int (by simp only [S.rcne_0, h1, h0, cond_true, cond_false])) (.cons (Says.int (by simp only [S.rcne_1, h1, h0, cond_true, cond_false])) (.nil))))
  ·
   exact (sim_run (S.hE S.o_rceq_ok) (S.rcne_r2 a b c d) ⟨⟨trivial, h0⟩, h1⟩).says (Says.agg (.cons (Says.int (by simp only [S.rcne_0, h1, h0, cond_true, cond_false])) (.cons (Says.int (by simp only [S.rcne_1, h1, h0, cond_true, cond_false])) (.nil))))
def S.o_rcne : Orc := orcAdd 66 (fun | [.str true t0, .agg [.int true .i64 a, .int true .i64 b], .agg [.int true .i64 c, .int true .i64 d]] => (match t0.data.toList == [33, 61] with | true => some (.agg [.int true .i64 (S.rcne_0 a b c d), .int true .i64 (S.rcne_1 a b c d)]) | false => none) | _ => none) S.o_rceq
theorem S.o_rcne_ok : OrcOk prog S.o_rcne := orcAdd_ok S.o_rceq_ok fun a v h => by
  try dsimp only at h
  split at h
  · rename_i t0 a b c d
    split at h
    · rename_i ht; cases h; have ht0 := ht; obtain rfl := ba_eq ht0; exact S.rcne_sim a b c d
    · cases h
  · cases h
def S.rcboth_0 (a b c d : Int) : Int := (bif S.rTruth_0 a b == 0 then (bif S.rTruth_1 a b == 1 then (S.rtold_0 true (S.rTruth_1 c d == 1)) else (0)) else (bif S.rTruth_1 a b == 1 then (S.rtold_0 (S.rTruth_0 c d == 0) (S.rTruth_1 c d == 1)) else (S.rtold_0 (S.rTruth_0 c d == 0) false)))
def S.rcboth_1 (a b c d : Int) : Int := (bif S.rTruth_0 a b == 0 then (bif S.rTruth_1 a b == 1 then (S.rtold_1 true (S.rTruth_1 c d == 1)) else (0)) else (bif S.rTruth_1 a b == 1 then (S.rtold_1 (S.rTruth_0 c d == 0) (S.rTruth_1 c d == 1)) else (S.rtold_1 (S.rTruth_0 c d == 0) false)))
theorem S.rcboth_r0 (a b c d : Int) : run (envC prog imA 300 {} S.o_rcne) 66 [.str false ⟨#[38, 38]⟩, .agg [.int true .i64 a, .int true .i64 b], .agg [.int true .i64 c, .int true .i64 d]] [] [.br true, .br true, .br true] = some (((True ∧ (a == b) = true) ∧ (S.rTruth_0 a b == 0) = true) ∧ (S.rTruth_1 a b == 1) = true, .agg [.int true .i64 (S.rtold_0 true (S.rTruth_1 c d == 1)), .int true .i64 (S.rtold_1 true (S.rTruth_1 c d == 1))], []) := by kernel_rfl
theorem S.rcboth_r1 (a b c d : Int) : run (envC prog imA 300 {} S.o_rcne) 66 [.str false ⟨#[38, 38]⟩, .agg [.int true .i64 a, .int true .i64 b], .agg [.int true .i64 c, .int true .i64 d]] [] [.br false, .br true, .br true] = some (((True ∧ (a == b) = false) ∧ (S.rTruth_0 a b == 0) = true) ∧ (S.rTruth_1 a b == 1) = true, .agg [.int true .i64 (S.rtold_0 true (S.rTruth_1 c d == 1)), .int true .i64 (S.rtold_1 true (S.rTruth_1 c d == 1))], []) := by kernel_rfl
theorem S.rcboth_r2 (a b c d : Int) : run (envC prog imA 300 {} S.o_rcne) 66 [.str false ⟨#[38, 38]⟩, .agg [.int true .i64 a, .int true .i64 b], .agg [.int true .i64 c, .int true .i64 d]] [] [.br false, .br false, .br true] = some (((True ∧ (a == b) = false) ∧ (S.rTruth_0 a b == 0) = false) ∧ (S.rTruth_1 a b == 1) = true, .agg [.int true .i64 (S.rtold_0 (S.rTruth_0 c d == 0) (S.rTruth_1 c d == 1)), .int true .i64 (S.rtold_1 (S.rTruth_0 c d == 0) (S.rTruth_1 c d == 1))], []) := by kernel_rfl
theorem S.rcboth_r3 (a b c d : Int) : run (envC prog imA 300 {} S.o_rcne) 66 [.str false ⟨#[38, 38]⟩, .agg [.int true .i64 a, .int true .i64 b], .agg [.int true .i64 c, .int true .i64 d]] [] [.br false, .br false, .br false] = some (((True ∧ (a == b) = false) ∧ (S.rTruth_0 a b == 0) = false) ∧ (S.rTruth_1 a b == 1) = false, .agg [.int true .i64 (S.rtold_0 (S.rTruth_0 c d == 0) false), .int true .i64 (S.rtold_1 (S.rTruth_0 c d == 0) false)], []) := by kernel_rfl
theorem S.rcboth_r4 (a b c d : Int) : run (envC prog imA 300 {} S.o_rcne) 66 [.str false ⟨#[38, 38]⟩, .agg [.int true .i64 a, .int true .i64 b], .agg [.int true .i64 c, .int true .i64 d]] [] [.br false, .br true, .br false] = some (((True ∧ (a == b) = false) ∧ (S.rTruth_0 a b == 0) = true) ∧ (S.rTruth_1 a b == 1) = false, .agg [.int false .i64 0, .int false .i64 0], []) := by kernel_rfl
theorem S.rcboth_r5 (a b c d : Int) : run (envC prog imA 300 {} S.o_rcne) 66 [.str false ⟨#[38, 38]⟩, .agg [.int true .i64 a, .int true .i64 b], .agg [.int true .i64 c, .int true .i64 d]] [] [.br true, .br false, .br true] = some (((True ∧ (a == b) = true) ∧ (S.rTruth_0 a b == 0) = false) ∧ (S.rTruth_1 a b == 1) = true, .agg [.int true .i64 (S.rtold_0 (S.rTruth_0 c d == 0) (S.rTruth_1 c d == 1)), .int true .i64 (S.rtold_1 (S.rTruth_0 c d == 0) (S.rTruth_1 c d == 1))], []) := by kernel_rfl
theorem S.rcboth_r6 (a b c d : Int) : run (envC prog imA 300 {} S.o_rcne) 66 [.str false ⟨#[38, 38]⟩, .agg [.int true .i64 a, .int true .i64 b], .agg [.int true .i64 c, .int true .i64 d]] [] [.br true, .br false, .br false] = some (((True ∧ (a == b) = true) ∧ (S.rTruth_0 a b == 0) = false) ∧ (S.rTruth_1 a b == 1) = false, .agg [.int true .i64 (S.rtold_0 (S.rTruth_0 c d == 0) false), .int true .i64 (S.rtold_1 (S.rTruth_0 c d == 0) false)], []) := by kernel_rfl
theorem S.rcboth_r7 (a b c d : Int) : run (envC prog imA 300 {} S.o_rcne) 66 [.str false ⟨#[38, 38]⟩, .agg [.int true .i64 a, .int true .i64 b], .agg [.int true .i64 c, .int true .i64 d]] [] [.br true, .br true, .br false] = some (((True ∧ (a == b) = true) ∧ (S.rTruth_0 a b == 0) = true) ∧ (S.rTruth_1 a b == 1) = false, .agg [.int false .i64 0, .int false .i64 0], []) := by kernel_rfl
theorem S.rcboth_sim (a b c d : Int) : Sim prog 66 [.str true ⟨#[38, 38]⟩, .agg [.int true .i64 a, .int true .i64 b], .agg [.int true .i64 c, .int true .i64 d]] [] (.agg [.int true .i64 (S.rcboth_0 a b c d), .int true .i64 (S.rcboth_1 a b c d)]) [] := by
 refine Sim.args (args' := [.str false ⟨#[38, 38]⟩, .agg [.int true .i64 a, .int true .i64 b], .agg [.int true .i64 c, .int true .i64 d]]) ?_ (.cons (Says.str rfl) (.cons (Says.refl _) (.cons (Says.refl _) (.nil))))
 rcases Bool.eq_false_or_eq_true (a == b) with h0 | h0
 ·
  rcases Bool.eq_false_or_eq_true (S.rTruth_0 a b == 0) with h1 | h1
  ·
   rcases Bool.eq_false_or_eq_true (S.rTruth_1 a b == 1) with h2 | h2
   ·
    exact (sim_run (S.hE S.o_rcne_ok) (S.rcboth_r0 a b c d) ⟨⟨⟨trivial, h0⟩, h1⟩, h2⟩).says (Says.agg (.cons (Says.int (by simp only [S.rcboth_0, h2, h1, h0, cond_true, cond_false])) (.cons (Says.int (by simp only [S.rcboth_1, h2, h1, h0, cond_true, cond_false])) (.nil))))
   ·
    exact (sim_run (S.hE S.o_rcne_ok) (S.rcboth_r7 a b c d) ⟨⟨⟨trivial, h0⟩, h1⟩, h2⟩).says (Says.agg (.cons (Says.int (by simp only [S.rcboth_0, h2, h1, h0, cond_true, cond_false])) (.cons (Says.int (by simp only [S.rcboth_1, h2, h1, h0, cond_true, cond_false])) (.nil))))
  ·
   rcases Bool.eq_false_or_eq_true (S.rTruth_1 a b == 1) with h2 | h2
   ·
    exact (sim_run (S.hE S.o_rcne_ok) (S.rcboth_r5 a b c d) ⟨⟨⟨trivial, h0⟩, h1⟩, h2⟩).says (Says.agg (.cons (Says.int (by simp only [S.rcboth_0, h2, h1, h0, cond_true, cond_false])) (.cons (Says.int (by simp only [S.rcboth_1, h2, h1, h0, cond_true, cond_false])) (.nil))))
   ·
    exact (sim_run (S.hE S.o_rcne_ok) (S.rcboth_r6 a b c d) ⟨⟨⟨trivial, h0⟩, h1⟩, h2⟩).says (Says.agg (.cons (Says.int (by simp only [S.rcboth_0, h2, h1, h0, cond_true, cond_false])) (.cons (Says.int (by simp only [S.rcboth_1, h2, h1, h0, cond_true, cond_false])) (.nil))))
 ·
  rcases Bool.eq_false_or_eq_true (S.rTruth_0 a b == 0) with h1 | h1
  ·
   rcases Bool.eq_false_or_eq_true (S.rTruth_1 a b == 1) with h2 | h2
   ·
    exact (sim_run (S.hE S.o_rcne_ok) (S.rcboth_r1 a b c d) ⟨⟨⟨trivial, h0⟩, h1⟩, h2⟩).says (Says.agg (.cons (Says.int (by simp only [S.rcboth_0, h2, h1, h0, cond_true, cond_false])) (.cons (Says.int (by simp only [S.rcboth_1, h2, h1, h0, cond_true, cond_false])) (.nil))))
   ·
    exact (sim_run (S.hE S.o_rcne_ok) (S.rcboth_r4 a b c d) ⟨⟨⟨trivial, h0⟩, h1⟩, h2⟩).says (Says.agg (.cons (Says.int (by simp only [S.rcboth_0, h2, h1, h0, cond_true, cond_false])) (.cons (Says.int (by simp only [S.rcboth_1, h2, h1, h0, cond_true, cond_false])) (.nil))))
  ·
   rcases Bool.eq_false_or_eq_true (S.rTruth_1 a b == 1) with h2 | h2
   ·
    exact (sim_run (S.hE S.o_rcne_ok) (S.rcboth_r2 a b c d) ⟨⟨⟨trivial, h0⟩, h1⟩, h2⟩).says (Says.agg (.cons (Says.int (by simp only [S.rcboth_0, h2, h1, h0, cond_true, cond_false])) (.cons (Says.int (by simp only [S.rcboth_1, h2, h1, h0, cond_true, cond_false])) (.nil))))
   ·
    exact (sim_run (S.hE S.o_rcne_ok) (S.rcboth_r3 a b c d) ⟨⟨⟨trivial, h0⟩, h1⟩, h2⟩).says (Says.agg (.cons (Says.int (by simp only [S.rcboth_0, h2, h1, h0, cond_true, cond_false])) (.cons (Says.int (by simp only [S.rcboth_1, h2, h1, h0, cond_true, cond_false])) (.nil))))
def S.o_rcboth : Orc := orcAdd 66 (fun | [.str true t0, .agg [.int true .i64 a, .int true .i64 b], .agg [.int true .i64 c, .int true .i64 d]] => (match t0.data.toList == [38, 38] with | true => some (.agg [.int true .i64 (S.rcboth_0 a b c d), .int true .i64 (S.rcboth_1 a b c d)]) | false => none) | _ => none) S.o_rcne
theorem S.o_rcboth_ok : OrcOk prog S.o_rcboth := orcAdd_ok S.o_rcne_ok fun a v h => by
  try dsimp only at h
  split at h
  · rename_i t0 a b c d
    split at h
    · rename_i ht; cases h; have ht0 := ht; obtain rfl := ba_eq ht0; exact S.rcboth_sim a b c d
    · cases h
  · cases h
def S.rcone_0 (a b c d : Int) : Int := (bif S.rTruth_0 a b == 0 then (bif S.rTruth_1 a b == 1 then (S.rtold_0 (S.rTruth_0 c d == 0) true) else (S.rtold_0 (S.rTruth_0 c d == 0) (S.rTruth_1 c d == 1))) else (bif S.rTruth_1 a b == 1 then (1) else (S.rtold_0 false (S.rTruth_1 c d == 1))))
def S.rcone_1 (a b c d : Int) : Int := (bif S.rTruth_0 a b == 0 then (bif S.rTruth_1 a b == 1 then (S.rtold_1 (S.rTruth_0 c d == 0) true) else (S.rtold_1 (S.rTruth_0 c d == 0) (S.rTruth_1 c d == 1))) else (bif S.rTruth_1 a b == 1 then (1) else (S.rtold_1 false (S.rTruth_1 c d == 1))))
theorem S.rcone_r0 (a b c d : Int) : run (envC prog imA 300 {} S.o_rcboth) 66 [.str false ⟨#[124, 124]⟩, .agg [.int true .i64 a, .int true .i64 b], .agg [.int true .i64 c, .int true .i64 d]] [] [.br true, .br true, .br true] = some (((True ∧ (a == b) = true) ∧ (S.rTruth_0 a b == 0) = true) ∧ (S.rTruth_1 a b == 1) = true, .agg [.int true .i64 (S.rtold_0 (S.rTruth_0 c d == 0) true), .int true .i64 (S.rtold_1 (S.rTruth_0 c d == 0) true)], []) := by kernel_rfl
theorem S.rcone_r1 (a b c d : Int) : run (envC prog imA 300 {} S.o_rcboth) 66 [.str false ⟨#[124, 124]⟩, .agg [.int true .i64 a, .int true .i64 b], .agg [.int true .i64 c, .int true .i64 d]] [] [.br false, .br true, .br true] = some (((True ∧ (a == b) = false) ∧ (S.rTruth_0 a b == 0) = true) ∧ (S.rTruth_1 a b == 1) = true, .agg [.int true .i64 (S.rtold_0 (S.rTruth_0 c d == 0) true), .int true .i64 (S.rtold_1 (S.rTruth_0 c d == 0) true)], []) := by kernel_rfl
theorem S.rcone_r2 (a b c d : Int) : run (envC prog imA 300 {} S.o_rcboth) 66 [.str false ⟨#[124, 124]⟩, .agg [.int true .i64 a, .int true .i64 b], .agg [.int true .i64 c, .int true .i64 d]] [] [.br false, .br false, .br true] = some (((True ∧ (a == b) = false) ∧ (S.rTruth_0 a b == 0) = false) ∧ (S.rTruth_1 a b == 1) = true, .agg [.int false .i64 1, .int false .i64 1], []) := by kernel_rfl
theorem S.rcone_r3 (a b c d : Int) : run (envC prog imA 300 {} S.o_rcboth) 66 [.str false ⟨#[124, 124]⟩, .agg [.int true .i64 a, .int true .i64 b], .agg [.int true .i64 c, .int true .i64 d]] [] [.br false, .br false, .br false] = some (((True ∧ (a == b) = false) ∧ (S.rTruth_0 a b == 0) = false) ∧ (S.rTruth_1 a b == 1) = false, .agg [.int true .i64 (S.rtold_0 false (S.rTruth_1 c d == 1)), .int true .i64 (S.rtold_1 false (S.rTruth_1 c d == 1))], []) := by kernel_rfl
theorem S.rcone_r4 (a b c d : Int) : run (envC prog imA 300 {} S.o_rcboth) 66 [.str false ⟨#[124, 124]⟩, .agg [.int true .i64 a, .int true .i64 b], .agg [.int true .i64 c, .int true .i64 d]] [] [.br false, .br true, .br false] = some (((True ∧ (a == b) = false) ∧ (S.rTruth_0 a b == 0) = true) ∧ (S.rTruth_1 a b == 1) = false, .agg [.int true .i64 (S.rtold_0 (S.rTruth_0 c d == 0) (S.rTruth_1 c d == 1)), .int true .i64 (S.rtold_1 (S.rTruth_0 c d == 0) (S.rTruth_1 c d == 1))], []) := by kernel_rfl
theorem S.rcone_r5 (a b c d : Int) : run (envC prog imA 300 {} S.o_rcboth) 66 [.str false ⟨#[124, 124]⟩, .agg [.int true .i64 a, .int true .i64 b], .agg [.int true .i64 c, .int true .i64 d]] [] [.br true, .br false, .br true] = some (((True ∧ (a == b) = true) ∧ (S.rTruth_0 a b == 0) = false) ∧ (S.rTruth_1 a b == 1) = true, .agg [.int false .i64 1, .int false .i64 1], []) := by kernel_rfl
theorem S.rcone_r6 (a b c d : Int) : run (envC prog imA 300 {} S.o_rcboth) 66 [.str false ⟨#[124, 124]⟩, .agg [.int true .i64 a, .int true .i64 b], .agg [.int true .i64 c, .int true .i64 d]] [] [.br true, .br false, .br false] = some (((True ∧ (a == b) = true) ∧ (S.rTruth_0 a b == 0) = false) ∧ (S.rTruth_1 a b == 1) = false, .agg [.int true .i64 (S.rtold_0 false (S.rTruth_1 c d == 1)), .int true .i64 (S.rtold_1 false (S.rTruth_1 c d == 1))], []) := by kernel_rfl
theorem S.rcone_r7 (a b c d : Int) : run (envC prog imA 300 {} S.o_rcboth) 66 [.str false ⟨#[124, 124]⟩, .agg [.int true .i64 a, .int true .i64 b], .agg [.int true .i64 c, .int true .i64 d]] [] [.br true, .br true, .br false] = some (((True ∧ (a == b) = true) ∧ (S.rTruth_0 a b == 0) = true) ∧ (S.rTruth_1 a b == 1) = false, .agg [.int true .i64 (S.rtold_0 (S.rTruth_0 c d == 0) (S.rTruth_1 c d == 1)), .int true .i64 (S.rtold_1 (S.rTruth_0 c d == 0) (S.rTruth_1 c d == 1))], []) := by kernel_rfl
theorem S.rcone_sim (a b c d : Int) : Sim prog 66 [.str true ⟨#[124, 124]⟩, .agg [.int true .i64 a, .int true .i64 b], .agg [.int true .i64 c, .int true .i64 d]] [] (.agg [.int true .i64 (S.rcone_0 a b c d), .int true .i64 (S.rcone_1 a b c d)]) [] := by
 refine Sim.args (args' := [.str false ⟨#[124, 124]⟩, .agg [.int true .i64 a, .int true .i64 b], .agg [.int true .i64 c, .int true .i64 d]]) ?_ (.cons (Says.str rfl) (.cons (Says.refl _) (.cons (Says.refl _) (.nil))))
 rcases Bool.eq_false_or_eq_true (a == b) with h0 | h0
 ·
  rcases Bool.eq_false_or_eq_true (S.rTruth_0 a b == 0) with h1 | h1
  ·
   rcases Bool.eq_false_or_eq_true (S.rTruth_1 a b == 1) with h2 | h2
   ·
    exact (sim_run (S.hE S.o_rcboth_ok) (S.rcone_r0 a b c d) ⟨⟨⟨trivial, h0⟩, h1⟩, h2⟩).says (Says.agg (.cons (Says.int (by simp only [S.rcone_0, h2, h1, h0, cond_true, cond_false])) (.cons (Says.int (by simp only [S.rcone_1, h2, h1, h0, cond_true, cond_false])) (.nil))))
   ·
    exact (sim_run (S.hE S.o_rcboth_ok) (S.rcone_r7 a b c d) ⟨⟨⟨trivial, h0⟩, h1⟩, h2⟩).says (Says.agg (.cons (Says.int (by simp only [S.rcone_0, h2, h1, h0, cond_true, cond_false])) (.cons (Says.int (by simp only [S.rcone_1, h2, h1, h0, cond_true, cond_false])) (.nil))))
  ·
   rcases Bool.eq_false_or_eq_true (S.rTruth_1 a b == 1) with h2 | h2
   ·
    exact (sim_run (S.hE S.o_rcboth_ok) (S.rcone_r5 a b c d) ⟨⟨⟨trivial, h0⟩, h1⟩, h2⟩).says (Says.agg (.cons (Says.int (by simp only [S.rcone_0, h2, h1, h0, cond_true, cond_false])) (.cons (Says.int (by simp only [S.rcone_1, h2, h1, h0, cond_true, cond_false])) (.nil))))
   ·
    exact (sim_run (S.hE S.o_rcboth_ok) (S.rcone_r6 a b c d) ⟨⟨⟨trivial, h0⟩, h1⟩, h2⟩).says (Says.agg (.cons (Says.int (by simp only [S.rcone_0, h2, h1, h0, cond_true, cond_false])) (.cons (Says.int (by simp only [S.rcone_1, h2, h1, h0, cond_true, cond_false])) (.nil))))
 ·
  rcases Bool.eq_false_or_eq_true (S.rTruth_0 a b == 0) with h1 | h1
  ·
   rcases Bool.eq_false_or_eq_true (S.rTruth_1 a b == 1) with h2 | h2
   ·
    exact (sim_run (S.hE S.o_rcboth_ok) (S.rcone_r1 a b c d) ⟨⟨⟨trivial, h0⟩, h1⟩, h2⟩).says (Says.agg (.cons (Says.int (by simp only [S.rcone_0, h2, h1, h0, cond_true, cond_false])) (.cons (Says.int (by simp only [S.rcone_1, h2, h1, h0, cond_true, cond_false])) (.nil))))
   ·
    exact (sim_run (S.hE S.o_rcboth_ok) (S.rcone_r4 a b c d) ⟨⟨⟨trivial, h0⟩, h1⟩, h2⟩).says (Says.agg (.cons (Says.int (by simp only [S.rcone_0, h2, h1, h0, cond_true, cond_false])) (.cons (Says.int (by simp only [S.rcone_1, h2, h1, h0, cond_true, cond_false])) (.nil))))
  ·
   rcases Bool.eq_false_or_eq_true (S.rTruth_1 a b == 1) with h2 | h2
   ·
    exact (sim_run (S.hE S.o_rcboth_ok) (S.rcone_r2 a b c d) ⟨⟨⟨trivial, h0⟩, h1⟩, h2⟩).says (Says.agg (.cons (Says.int (by simp only [S.rcone_0, h2, h1, h0, cond_true, cond_false])) (.cons (Says.int (by simp only [S.rcone_1, h2, h1, h0, cond_true, cond_false])) (.nil))))
   ·
    exact (sim_run (S.hE S.o_rcboth_ok) (S.rcone_r3 a b c d) ⟨⟨⟨trivial, h0⟩, h1⟩, h2⟩).says (Says.agg (.cons (Says.int (by simp only [S.rcone_0, h2, h1, h0, cond_true, cond_false])) (.cons (Says.int (by simp only [S.rcone_1, h2, h1, h0, cond_true, cond_false])) (.nil))))
def S.o_rcone : Orc := orcAdd 66 (fun | [.str true t0, .agg [.int true .i64 a, .int true .i64 b], .agg [.int true .i64 c, .int true .i64 d]] => (match t0.data.toList == [124, 124] with | true => some (.agg [.int true .i64 (S.rcone_0 a b c d), .int true .i64 (S.rcone_1 a b c d)]) | false => none) | _ => none) S.o_rcboth
theorem S.o_rcone_ok : OrcOk prog S.o_rcone := orcAdd_ok S.o_rcboth_ok fun a v h => by
  try dsimp only at h
  split at h
  · rename_i t0 a b c d
    split at h
    · rename_i ht; cases h; have ht0 := ht; obtain rfl := ba_eq ht0; exact S.rcone_sim a b c d
    · cases h
  · cases h
def S.rTraps (a : ByteArray) (b c d e : Int) : Int := (bif S.rEmpty b c then (0) else (bif S.rEmpty d e then (0) else (bif ByteArray.toList a == ByteArray.toList { data := #[47] } then (bif S.rHas d e 0 then (1) else (bif ByteArray.toList a == ByteArray.toList { data := #[60, 60] } then (bif decide (d < 0) then (2) else (bif decide (e > 63) then (2) else (0))) else (bif ByteArray.toList a == ByteArray.toList { data := #[62, 62] } then (bif decide (d < 0) then (2) else (bif decide (e > 63) then (2) else (0))) else (0)))) else (bif ByteArray.toList a == ByteArray.toList { data := #[37] } then (bif S.rHas d e 0 then (1) else (bif ByteArray.toList a == ByteArray.toList { data := #[60, 60] } then (bif decide (d < 0) then (2) else (bif decide (e > 63) then (2) else (0))) else (bif ByteArray.toList a == ByteArray.toList { data := #[62, 62] } then (bif decide (d < 0) then (2) else (bif decide (e > 63) then (2) else (0))) else (0)))) else (bif ByteArray.toList a == ByteArray.toList { data := #[60, 60] } then (bif decide (d < 0) then (2) else (bif decide (e > 63) then (2) else (0))) else (bif ByteArray.toList a == ByteArray.toList { data := #[62, 62] } then (bif decide (d < 0) then (2) else (bif decide (e > 63) then (2) else (0))) else (0)))))))
theorem S.rTraps_r0 (a : ByteArray) (b c d e : Int) : run (envC prog imA 300 {} S.o_rcone) 20 [.str true a, .agg [.int true .i64 b, .int true .i64 c], .agg [.int true .i64 d, .int true .i64 e]] [] [.br true] = some (True ∧ S.rEmpty b c = true, .int false .i64 0, []) := by kernel_rfl
theorem S.rTraps_r1 (a : ByteArray) (b c d e : Int) : run (envC prog imA 300 {} S.o_rcone) 20 [.str true a, .agg [.int true .i64 b, .int true .i64 c], .agg [.int true .i64 d, .int true .i64 e]] [] [.br false, .br true] = some ((True ∧ S.rEmpty b c = false) ∧ S.rEmpty d e = true, .int false .i64 0, []) := by kernel_rfl
theorem S.rTraps_r2 (a : ByteArray) (b c d e : Int) : run (envC prog imA 300 {} S.o_rcone) 20 [.str true a, .agg [.int true .i64 b, .int true .i64 c], .agg [.int true .i64 d, .int true .i64 e]] [] [.br false, .br false, .br true, .br true] = some ((((True ∧ S.rEmpty b c = false) ∧ S.rEmpty d e = false) ∧ (ByteArray.toList a == ByteArray.toList { data := #[47] }) = true) ∧ S.rHas d e 0 = true, .int false .i64 1, []) := by kernel_rfl
theorem S.rTraps_r3 (a : ByteArray) (b c d e : Int) : run (envC prog imA 300 {} S.o_rcone) 20 [.str true a, .agg [.int true .i64 b, .int true .i64 c], .agg [.int true .i64 d, .int true .i64 e]] [] [.br false, .br false, .br false, .br true, .br true] = some (((((True ∧ S.rEmpty b c = false) ∧ S.rEmpty d e = false) ∧ (ByteArray.toList a == ByteArray.toList { data := #[47] }) = false) ∧ (ByteArray.toList a == ByteArray.toList { data := #[37] }) = true) ∧ S.rHas d e 0 = true, .int false .i64 1, []) := by kernel_rfl
theorem S.rTraps_r4 (a : ByteArray) (b c d e : Int) : run (envC prog imA 300 {} S.o_rcone) 20 [.str true a, .agg [.int true .i64 b, .int true .i64 c], .agg [.int true .i64 d, .int true .i64 e]] [] [.br false, .br false, .br false, .br false, .br true, .br true] = some ((((((True ∧ S.rEmpty b c = false) ∧ S.rEmpty d e = false) ∧ (ByteArray.toList a == ByteArray.toList { data := #[47] }) = false) ∧ (ByteArray.toList a == ByteArray.toList { data := #[37] }) = false) ∧ (ByteArray.toList a == ByteArray.toList { data := #[60, 60] }) = true) ∧ decide (d < 0) = true, .int false .i64 2, []) := by kernel_rfl
theorem S.rTraps_r5 (a : ByteArray) (b c d e : Int) : run (envC prog imA 300 {} S.o_rcone) 20 [.str true a, .agg [.int true .i64 b, .int true .i64 c], .agg [.int true .i64 d, .int true .i64 e]] [] [.br false, .br false, .br false, .br false, .br false, .br true, .br true] = some (((((((True ∧ S.rEmpty b c = false) ∧ S.rEmpty d e = false) ∧ (ByteArray.toList a == ByteArray.toList { data := #[47] }) = false) ∧ (ByteArray.toList a == ByteArray.toList { data := #[37] }) = false) ∧ (ByteArray.toList a == ByteArray.toList { data := #[60, 60] }) = false) ∧ (ByteArray.toList a == ByteArray.toList { data := #[62, 62] }) = true) ∧ decide (d < 0) = true, .int false .i64 2, []) := by kernel_rfl
theorem S.rTraps_r6 (a : ByteArray) (b c d e : Int) : run (envC prog imA 300 {} S.o_rcone) 20 [.str true a, .agg [.int true .i64 b, .int true .i64 c], .agg [.int true .i64 d, .int true .i64 e]] [] [.br false, .br false, .br false, .br false, .br false, .br false] = some ((((((True ∧ S.rEmpty b c = false) ∧ S.rEmpty d e = false) ∧ (ByteArray.toList a == ByteArray.toList { data := #[47] }) = false) ∧ (ByteArray.toList a == ByteArray.toList { data := #[37] }) = false) ∧ (ByteArray.toList a == ByteArray.toList { data := #[60, 60] }) = false) ∧ (ByteArray.toList a == ByteArray.toList { data := #[62, 62] }) = false, .int false .i64 0, []) := by kernel_rfl
theorem S.rTraps_r7 (a : ByteArray) (b c d e : Int) : run (envC prog imA 300 {} S.o_rcone) 20 [.str true a, .agg [.int true .i64 b, .int true .i64 c], .agg [.int true .i64 d, .int true .i64 e]] [] [.br false, .br false, .br false, .br false, .br false, .br true, .br false, .br true] = some ((((((((True ∧ S.rEmpty b c = false) ∧ S.rEmpty d e = false) ∧ (ByteArray.toList a == ByteArray.toList { data := #[47] }) = false) ∧ (ByteArray.toList a == ByteArray.toList { data := #[37] }) = false) ∧ (ByteArray.toList a == ByteArray.toList { data := #[60, 60] }) = false) ∧ (ByteArray.toList a == ByteArray.toList { data := #[62, 62] }) = true) ∧ decide (d < 0) = false) ∧ decide (e > 63) = true, .int false .i64 2, []) := by kernel_rfl
theorem S.rTraps_r8 (a : ByteArray) (b c d e : Int) : run (envC prog imA 300 {} S.o_rcone) 20 [.str true a, .agg [.int true .i64 b, .int true .i64 c], .agg [.int true .i64 d, .int true .i64 e]] [] [.br false, .br false, .br false, .br false, .br false, .br true, .br false, .br false] = some ((((((((True ∧ S.rEmpty b c = false) ∧ S.rEmpty d e = false) ∧ (ByteArray.toList a == ByteArray.toList { data := #[47] }) = false) ∧ (ByteArray.toList a == ByteArray.toList { data := #[37] }) = false) ∧ (ByteArray.toList a == ByteArray.toList { data := #[60, 60] }) = false) ∧ (ByteArray.toList a == ByteArray.toList { data := #[62, 62] }) = true) ∧ decide (d < 0) = false) ∧ decide (e > 63) = false, .int false .i64 0, []) := by kernel_rfl
theorem S.rTraps_r9 (a : ByteArray) (b c d e : Int) : run (envC prog imA 300 {} S.o_rcone) 20 [.str true a, .agg [.int true .i64 b, .int true .i64 c], .agg [.int true .i64 d, .int true .i64 e]] [] [.br false, .br false, .br false, .br false, .br true, .br false, .br true] = some (((((((True ∧ S.rEmpty b c = false) ∧ S.rEmpty d e = false) ∧ (ByteArray.toList a == ByteArray.toList { data := #[47] }) = false) ∧ (ByteArray.toList a == ByteArray.toList { data := #[37] }) = false) ∧ (ByteArray.toList a == ByteArray.toList { data := #[60, 60] }) = true) ∧ decide (d < 0) = false) ∧ decide (e > 63) = true, .int false .i64 2, []) := by kernel_rfl
theorem S.rTraps_r10 (a : ByteArray) (b c d e : Int) : run (envC prog imA 300 {} S.o_rcone) 20 [.str true a, .agg [.int true .i64 b, .int true .i64 c], .agg [.int true .i64 d, .int true .i64 e]] [] [.br false, .br false, .br false, .br false, .br true, .br false, .br false] = some (((((((True ∧ S.rEmpty b c = false) ∧ S.rEmpty d e = false) ∧ (ByteArray.toList a == ByteArray.toList { data := #[47] }) = false) ∧ (ByteArray.toList a == ByteArray.toList { data := #[37] }) = false) ∧ (ByteArray.toList a == ByteArray.toList { data := #[60, 60] }) = true) ∧ decide (d < 0) = false) ∧ decide (e > 63) = false, .int false .i64 0, []) := by kernel_rfl
theorem S.rTraps_r11 (a : ByteArray) (b c d e : Int) : run (envC prog imA 300 {} S.o_rcone) 20 [.str true a, .agg [.int true .i64 b, .int true .i64 c], .agg [.int true .i64 d, .int true .i64 e]] [] [.br false, .br false, .br false, .br true, .br false, .br true, .br true] = some (((((((True ∧ S.rEmpty b c = false) ∧ S.rEmpty d e = false) ∧ (ByteArray.toList a == ByteArray.toList { data := #[47] }) = false) ∧ (ByteArray.toList a == ByteArray.toList { data := #[37] }) = true) ∧ S.rHas d e 0 = false) ∧ (ByteArray.toList a == ByteArray.toList { data := #[60, 60] }) = true) ∧ decide (d < 0) = true, .int false .i64 2, []) := by kernel_rfl
theorem S.rTraps_r12 (a : ByteArray) (b c d e : Int) : run (envC prog imA 300 {} S.o_rcone) 20 [.str true a, .agg [.int true .i64 b, .int true .i64 c], .agg [.int true .i64 d, .int true .i64 e]] [] [.br false, .br false, .br false, .br true, .br false, .br false, .br true, .br true] = some ((((((((True ∧ S.rEmpty b c = false) ∧ S.rEmpty d e = false) ∧ (ByteArray.toList a == ByteArray.toList { data := #[47] }) = false) ∧ (ByteArray.toList a == ByteArray.toList { data := #[37] }) = true) ∧ S.rHas d e 0 = false) ∧ (ByteArray.toList a == ByteArray.toList { data := #[60, 60] }) = false) ∧ (ByteArray.toList a == ByteArray.toList { data := #[62, 62] }) = true) ∧ decide (d < 0) = true, .int false .i64 2, []) := by kernel_rfl
theorem S.rTraps_r13 (a : ByteArray) (b c d e : Int) : run (envC prog imA 300 {} S.o_rcone) 20 [.str true a, .agg [.int true .i64 b, .int true .i64 c], .agg [.int true .i64 d, .int true .i64 e]] [] [.br false, .br false, .br false, .br true, .br false, .br false, .br false] = some (((((((True ∧ S.rEmpty b c = false) ∧ S.rEmpty d e = false) ∧ (ByteArray.toList a == ByteArray.toList { data := #[47] }) = false) ∧ (ByteArray.toList a == ByteArray.toList { data := #[37] }) = true) ∧ S.rHas d e 0 = false) ∧ (ByteArray.toList a == ByteArray.toList { data := #[60, 60] }) = false) ∧ (ByteArray.toList a == ByteArray.toList { data := #[62, 62] }) = false, .int false .i64 0, []) := by kernel_rfl
theorem S.rTraps_r14 (a : ByteArray) (b c d e : Int) : run (envC prog imA 300 {} S.o_rcone) 20 [.str true a, .agg [.int true .i64 b, .int true .i64 c], .agg [.int true .i64 d, .int true .i64 e]] [] [.br false, .br false, .br false, .br true, .br false, .br false, .br true, .br false, .br true] = some (((((((((True ∧ S.rEmpty b c = false) ∧ S.rEmpty d e = false) ∧ (ByteArray.toList a == ByteArray.toList { data := #[47] }) = false) ∧ (ByteArray.toList a == ByteArray.toList { data := #[37] }) = true) ∧ S.rHas d e 0 = false) ∧ (ByteArray.toList a == ByteArray.toList { data := #[60, 60] }) = false) ∧ (ByteArray.toList a == ByteArray.toList { data := #[62, 62] }) = true) ∧ decide (d < 0) = false) ∧ decide (e > 63) = true, .int false .i64 2, []) := by kernel_rfl
theorem S.rTraps_r15 (a : ByteArray) (b c d e : Int) : run (envC prog imA 300 {} S.o_rcone) 20 [.str true a, .agg [.int true .i64 b, .int true .i64 c], .agg [.int true .i64 d, .int true .i64 e]] [] [.br false, .br false, .br false, .br true, .br false, .br false, .br true, .br false, .br false] = some (((((((((True ∧ S.rEmpty b c = false) ∧ S.rEmpty d e = false) ∧ (ByteArray.toList a == ByteArray.toList { data := #[47] }) = false) ∧ (ByteArray.toList a == ByteArray.toList { data := #[37] }) = true) ∧ S.rHas d e 0 = false) ∧ (ByteArray.toList a == ByteArray.toList { data := #[60, 60] }) = false) ∧ (ByteArray.toList a == ByteArray.toList { data := #[62, 62] }) = true) ∧ decide (d < 0) = false) ∧ decide (e > 63) = false, .int false .i64 0, []) := by kernel_rfl
theorem S.rTraps_r16 (a : ByteArray) (b c d e : Int) : run (envC prog imA 300 {} S.o_rcone) 20 [.str true a, .agg [.int true .i64 b, .int true .i64 c], .agg [.int true .i64 d, .int true .i64 e]] [] [.br false, .br false, .br false, .br true, .br false, .br true, .br false, .br true] = some ((((((((True ∧ S.rEmpty b c = false) ∧ S.rEmpty d e = false) ∧ (ByteArray.toList a == ByteArray.toList { data := #[47] }) = false) ∧ (ByteArray.toList a == ByteArray.toList { data := #[37] }) = true) ∧ S.rHas d e 0 = false) ∧ (ByteArray.toList a == ByteArray.toList { data := #[60, 60] }) = true) ∧ decide (d < 0) = false) ∧ decide (e > 63) = true, .int false .i64 2, []) := by kernel_rfl
theorem S.rTraps_r17 (a : ByteArray) (b c d e : Int) : run (envC prog imA 300 {} S.o_rcone) 20 [.str true a, .agg [.int true .i64 b, .int true .i64 c], .agg [.int true .i64 d, .int true .i64 e]] [] [.br false, .br false, .br false, .br true, .br false, .br true, .br false, .br false] = some ((((((((True ∧ S.rEmpty b c = false) ∧ S.rEmpty d e = false) ∧ (ByteArray.toList a == ByteArray.toList { data := #[47] }) = false) ∧ (ByteArray.toList a == ByteArray.toList { data := #[37] }) = true) ∧ S.rHas d e 0 = false) ∧ (ByteArray.toList a == ByteArray.toList { data := #[60, 60] }) = true) ∧ decide (d < 0) = false) ∧ decide (e > 63) = false, .int false .i64 0, []) := by kernel_rfl
theorem S.rTraps_r18 (a : ByteArray) (b c d e : Int) : run (envC prog imA 300 {} S.o_rcone) 20 [.str true a, .agg [.int true .i64 b, .int true .i64 c], .agg [.int true .i64 d, .int true .i64 e]] [] [.br false, .br false, .br true, .br false, .br true, .br true] = some ((((((True ∧ S.rEmpty b c = false) ∧ S.rEmpty d e = false) ∧ (ByteArray.toList a == ByteArray.toList { data := #[47] }) = true) ∧ S.rHas d e 0 = false) ∧ (ByteArray.toList a == ByteArray.toList { data := #[60, 60] }) = true) ∧ decide (d < 0) = true, .int false .i64 2, []) := by kernel_rfl
theorem S.rTraps_r19 (a : ByteArray) (b c d e : Int) : run (envC prog imA 300 {} S.o_rcone) 20 [.str true a, .agg [.int true .i64 b, .int true .i64 c], .agg [.int true .i64 d, .int true .i64 e]] [] [.br false, .br false, .br true, .br false, .br false, .br true, .br true] = some (((((((True ∧ S.rEmpty b c = false) ∧ S.rEmpty d e = false) ∧ (ByteArray.toList a == ByteArray.toList { data := #[47] }) = true) ∧ S.rHas d e 0 = false) ∧ (ByteArray.toList a == ByteArray.toList { data := #[60, 60] }) = false) ∧ (ByteArray.toList a == ByteArray.toList { data := #[62, 62] }) = true) ∧ decide (d < 0) = true, .int false .i64 2, []) := by kernel_rfl
theorem S.rTraps_r20 (a : ByteArray) (b c d e : Int) : run (envC prog imA 300 {} S.o_rcone) 20 [.str true a, .agg [.int true .i64 b, .int true .i64 c], .agg [.int true .i64 d, .int true .i64 e]] [] [.br false, .br false, .br true, .br false, .br false, .br false] = some ((((((True ∧ S.rEmpty b c = false) ∧ S.rEmpty d e = false) ∧ (ByteArray.toList a == ByteArray.toList { data := #[47] }) = true) ∧ S.rHas d e 0 = false) ∧ (ByteArray.toList a == ByteArray.toList { data := #[60, 60] }) = false) ∧ (ByteArray.toList a == ByteArray.toList { data := #[62, 62] }) = false, .int false .i64 0, []) := by kernel_rfl
theorem S.rTraps_r21 (a : ByteArray) (b c d e : Int) : run (envC prog imA 300 {} S.o_rcone) 20 [.str true a, .agg [.int true .i64 b, .int true .i64 c], .agg [.int true .i64 d, .int true .i64 e]] [] [.br false, .br false, .br true, .br false, .br false, .br true, .br false, .br true] = some ((((((((True ∧ S.rEmpty b c = false) ∧ S.rEmpty d e = false) ∧ (ByteArray.toList a == ByteArray.toList { data := #[47] }) = true) ∧ S.rHas d e 0 = false) ∧ (ByteArray.toList a == ByteArray.toList { data := #[60, 60] }) = false) ∧ (ByteArray.toList a == ByteArray.toList { data := #[62, 62] }) = true) ∧ decide (d < 0) = false) ∧ decide (e > 63) = true, .int false .i64 2, []) := by kernel_rfl
theorem S.rTraps_r22 (a : ByteArray) (b c d e : Int) : run (envC prog imA 300 {} S.o_rcone) 20 [.str true a, .agg [.int true .i64 b, .int true .i64 c], .agg [.int true .i64 d, .int true .i64 e]] [] [.br false, .br false, .br true, .br false, .br false, .br true, .br false, .br false] = some ((((((((True ∧ S.rEmpty b c = false) ∧ S.rEmpty d e = false) ∧ (ByteArray.toList a == ByteArray.toList { data := #[47] }) = true) ∧ S.rHas d e 0 = false) ∧ (ByteArray.toList a == ByteArray.toList { data := #[60, 60] }) = false) ∧ (ByteArray.toList a == ByteArray.toList { data := #[62, 62] }) = true) ∧ decide (d < 0) = false) ∧ decide (e > 63) = false, .int false .i64 0, []) := by kernel_rfl
theorem S.rTraps_r23 (a : ByteArray) (b c d e : Int) : run (envC prog imA 300 {} S.o_rcone) 20 [.str true a, .agg [.int true .i64 b, .int true .i64 c], .agg [.int true .i64 d, .int true .i64 e]] [] [.br false, .br false, .br true, .br false, .br true, .br false, .br true] = some (((((((True ∧ S.rEmpty b c = false) ∧ S.rEmpty d e = false) ∧ (ByteArray.toList a == ByteArray.toList { data := #[47] }) = true) ∧ S.rHas d e 0 = false) ∧ (ByteArray.toList a == ByteArray.toList { data := #[60, 60] }) = true) ∧ decide (d < 0) = false) ∧ decide (e > 63) = true, .int false .i64 2, []) := by kernel_rfl
theorem S.rTraps_r24 (a : ByteArray) (b c d e : Int) : run (envC prog imA 300 {} S.o_rcone) 20 [.str true a, .agg [.int true .i64 b, .int true .i64 c], .agg [.int true .i64 d, .int true .i64 e]] [] [.br false, .br false, .br true, .br false, .br true, .br false, .br false] = some (((((((True ∧ S.rEmpty b c = false) ∧ S.rEmpty d e = false) ∧ (ByteArray.toList a == ByteArray.toList { data := #[47] }) = true) ∧ S.rHas d e 0 = false) ∧ (ByteArray.toList a == ByteArray.toList { data := #[60, 60] }) = true) ∧ decide (d < 0) = false) ∧ decide (e > 63) = false, .int false .i64 0, []) := by kernel_rfl
theorem S.rTraps_sim (a : ByteArray) (b c d e : Int) : Sim prog 20 [.str true a, .agg [.int true .i64 b, .int true .i64 c], .agg [.int true .i64 d, .int true .i64 e]] [] (.int true .i64 (S.rTraps a b c d e)) [] := by
 rcases Bool.eq_false_or_eq_true (S.rEmpty b c) with h0 | h0
 ·
  exact (sim_run (S.hE S.o_rcone_ok) (S.rTraps_r0 a b c d e) ⟨trivial, h0⟩).says (Says.int (by simp only [S.rTraps, h0, cond_true, cond_false]))
 ·
  rcases Bool.eq_false_or_eq_true (S.rEmpty d e) with h1 | h1
  ·
   exact (sim_run (S.hE S.o_rcone_ok) (S.rTraps_r1 a b c d e) ⟨⟨trivial, h0⟩, h1⟩).says (Says.int (by simp only [S.rTraps, h1, h0, cond_true, cond_false]))
  ·
   rcases Bool.eq_false_or_eq_true (ByteArray.toList a == ByteArray.toList { data := #[47] }) with h2 | h2
   ·
    rcases Bool.eq_false_or_eq_true (S.rHas d e 0) with h3 | h3
    ·
     exact (sim_run (S.hE S.o_rcone_ok) (S.rTraps_r2 a b c d e) ⟨⟨⟨⟨trivial, h0⟩, h1⟩, h2⟩, h3⟩).says (Says.int (by simp only [S.rTraps, h3, h2, h1, h0, cond_true, cond_false]))
    ·
     rcases Bool.eq_false_or_eq_true (ByteArray.toList a == ByteArray.toList { data := #[60, 60] }) with h4 | h4
     ·
      rcases Bool.eq_false_or_eq_true (decide (d < 0)) with h5 | h5
      ·
       exact (sim_run (S.hE S.o_rcone_ok) (S.rTraps_r18 a b c d e) ⟨⟨⟨⟨⟨⟨trivial, h0⟩, h1⟩, h2⟩, h3⟩, h4⟩, h5⟩).says (Says.int (by simp only [S.rTraps, h5, h4, h3, h2, h1, h0, cond_true, cond_false]))
      ·
       rcases Bool.eq_false_or_eq_true (decide (e > 63)) with h6 | h6
       ·
        exact (sim_run (S.hE S.o_rcone_ok) (S.rTraps_r23 a b c d e) ⟨⟨⟨⟨⟨⟨⟨trivial, h0⟩, h1⟩, h2⟩, h3⟩, h4⟩, h5⟩, h6⟩).says (Says.int (by simp only [S.rTraps, h6, h5, h4, h3, h2, h1, h0, cond_true, cond_false]))
       ·
        exact (sim_run (S.hE S.o_rcone_ok) (S.rTraps_r24 a b c d e) ⟨⟨⟨⟨⟨⟨⟨trivial, h0⟩, h1⟩, h2⟩, h3⟩, h4⟩, h5⟩, h6⟩).says (Says.int (by simp only [S.rTraps, h6, h5, h4, h3, h2, h1, h0, cond_true, cond_false]))
     ·
      rcases Bool.eq_false_or_eq_true (ByteArray.toList a == ByteArray.toList { data := #[62, 62] }) with h5 | h5
      ·
       rcases Bool.eq_false_or_eq_true (decide (d < 0)) with h6 | h6
       ·
        exact (sim_run (S.hE S.o_rcone_ok) (S.rTraps_r19 a b c d e) ⟨⟨⟨⟨⟨⟨⟨trivial, h0⟩, h1⟩, h2⟩, h3⟩, h4⟩, h5⟩, h6⟩).says (Says.int (by simp only [S.rTraps, h6, h5, h4, h3, h2, h1, h0, cond_true, cond_false]))
       ·
        rcases Bool.eq_false_or_eq_true (decide (e > 63)) with h7 | h7
        ·
         exact (sim_run (S.hE S.o_rcone_ok) (S.rTraps_r21 a b c d e) ⟨⟨⟨⟨⟨⟨⟨⟨trivial, h0⟩, h1⟩, h2⟩, h3⟩, h4⟩, h5⟩, h6⟩, h7⟩).says (Says.int (by simp only [S.rTraps, h7, h6, h5, h4, h3, h2, h1, h0, cond_true, cond_false]))
        ·
         exact (sim_run (S.hE S.o_rcone_ok) (S.rTraps_r22 a b c d e) ⟨⟨⟨⟨⟨⟨⟨⟨trivial, h0⟩, h1⟩, h2⟩, h3⟩, h4⟩, h5⟩, h6⟩, h7⟩).says (Says.int (by simp only [S.rTraps, h7, h6, h5, h4, h3, h2, h1, h0, cond_true, cond_false]))
      ·
       exact (sim_run (S.hE S.o_rcone_ok) (S.rTraps_r20 a b c d e) ⟨⟨⟨⟨⟨⟨trivial, h0⟩, h1⟩, h2⟩, h3⟩, h4⟩, h5⟩).says (Says.int (by simp only [S.rTraps, h5, h4, h3, h2, h1, h0, cond_true, cond_false]))
   ·
    rcases Bool.eq_false_or_eq_true (ByteArray.toList a == ByteArray.toList { data := #[37] }) with h3 | h3
    ·
     rcases Bool.eq_false_or_eq_true (S.rHas d e 0) with h4 | h4
     ·
      exact (sim_run (S.hE S.o_rcone_ok) (S.rTraps_r3 a b c d e) ⟨⟨⟨⟨⟨trivial, h0⟩, h1⟩, h2⟩, h3⟩, h4⟩).says (Says.int (by simp only [S.rTraps, h4, h3, h2, h1, h0, cond_true, cond_false]))
     ·
      rcases Bool.eq_false_or_eq_true (ByteArray.toList a == ByteArray.toList { data := #[60, 60] }) with h5 | h5
      ·
       rcases Bool.eq_false_or_eq_true (decide (d < 0)) with h6 | h6
       ·
        exact (sim_run (S.hE S.o_rcone_ok) (S.rTraps_r11 a b c d e) ⟨⟨⟨⟨⟨⟨⟨trivial, h0⟩, h1⟩, h2⟩, h3⟩, h4⟩, h5⟩, h6⟩).says (Says.int (by simp only [S.rTraps, h6, h5, h4, h3, h2, h1, h0, cond_true, cond_false]))
       ·
        rcases Bool.eq_false_or_eq_true (decide (e > 63)) with h7 | h7
        ·
         exact (sim_run (S.hE S.o_rcone_ok) (S.rTraps_r16 a b c d e) ⟨⟨⟨⟨⟨⟨⟨⟨trivial, h0⟩, h1⟩, h2⟩, h3⟩, h4⟩, h5⟩, h6⟩, h7⟩).says (Says.int (by simp only [S.rTraps, h7, h6, h5, h4, h3, h2, h1, h0, cond_true, cond_false]))
        ·
         exact (sim_run (S.hE S.o_rcone_ok) (S.rTraps_r17 a b c d e) ⟨⟨⟨⟨⟨⟨⟨⟨trivial, h0⟩, h1⟩, h2⟩, h3⟩, h4⟩, h5⟩, h6⟩, h7⟩).says (Says.int (by simp only [S.rTraps, h7, h6, h5, h4, h3, h2, h1, h0, cond_true, cond_false]))
      ·
       rcases Bool.eq_false_or_eq_true (ByteArray.toList a == ByteArray.toList { data := #[62, 62] }) with h6 | h6
       ·
        rcases Bool.eq_false_or_eq_true (decide (d < 0)) with h7 | h7
        ·
         exact (sim_run (S.hE S.o_rcone_ok) (S.rTraps_r12 a b c d e) ⟨⟨⟨⟨⟨⟨⟨⟨trivial, h0⟩, h1⟩, h2⟩, h3⟩, h4⟩, h5⟩, h6⟩, h7⟩).says (Says.int (by simp only [S.rTraps, h7, h6, h5, h4, h3, h2, h1, h0, cond_true, cond_false]))
        ·
         rcases Bool.eq_false_or_eq_true (decide (e > 63)) with h8 | h8
         ·
          exact (sim_run (S.hE S.o_rcone_ok) (S.rTraps_r14 a b c d e) ⟨⟨⟨⟨⟨⟨⟨⟨⟨trivial, h0⟩, h1⟩, h2⟩, h3⟩, h4⟩, h5⟩, h6⟩, h7⟩, h8⟩).says (Says.int (by simp only [S.rTraps, h8, h7, h6, h5, h4, h3, h2, h1, h0, cond_true, cond_false]))
         ·
          exact (sim_run (S.hE S.o_rcone_ok) (S.rTraps_r15 a b c d e) ⟨⟨⟨⟨⟨⟨⟨⟨⟨trivial, h0⟩, h1⟩, h2⟩, h3⟩, h4⟩, h5⟩, h6⟩, h7⟩, h8⟩).says (Says.int (by simp only [S.rTraps, h8, h7, h6, h5, h4, h3, h2, h1, h0, cond_true, cond_false]))
       ·
        exact (sim_run (S.hE S.o_rcone_ok) (S.rTraps_r13 a b c d e) ⟨⟨⟨⟨⟨⟨⟨trivial, h0⟩, h1⟩, h2⟩, h3⟩, h4⟩, h5⟩, h6⟩).says (Says.int (by simp only [S.rTraps, h6, h5, h4, h3, h2, h1, h0, cond_true, cond_false]))
    ·
     rcases Bool.eq_false_or_eq_true (ByteArray.toList a == ByteArray.toList { data := #[60, 60] }) with h4 | h4
     ·
      rcases Bool.eq_false_or_eq_true (decide (d < 0)) with h5 | h5
      ·
       exact (sim_run (S.hE S.o_rcone_ok) (S.rTraps_r4 a b c d e) ⟨⟨⟨⟨⟨⟨trivial, h0⟩, h1⟩, h2⟩, h3⟩, h4⟩, h5⟩).says (Says.int (by simp only [S.rTraps, h5, h4, h3, h2, h1, h0, cond_true, cond_false]))
      ·
       rcases Bool.eq_false_or_eq_true (decide (e > 63)) with h6 | h6
       ·
        exact (sim_run (S.hE S.o_rcone_ok) (S.rTraps_r9 a b c d e) ⟨⟨⟨⟨⟨⟨⟨trivial, h0⟩, h1⟩, h2⟩, h3⟩, h4⟩, h5⟩, h6⟩).says (Says.int (by simp only [S.rTraps, h6, h5, h4, h3, h2, h1, h0, cond_true, cond_false]))
       ·
        exact (sim_run (S.hE S.o_rcone_ok) (S.rTraps_r10 a b c d e) ⟨⟨⟨⟨⟨⟨⟨trivial, h0⟩, h1⟩, h2⟩, h3⟩, h4⟩, h5⟩, h6⟩).says (Says.int (by simp only [S.rTraps, h6, h5, h4, h3, h2, h1, h0, cond_true, cond_false]))
     ·
      rcases Bool.eq_false_or_eq_true (ByteArray.toList a == ByteArray.toList { data := #[62, 62] }) with h5 | h5
      ·
       rcases Bool.eq_false_or_eq_true (decide (d < 0)) with h6 | h6
       ·
        exact (sim_run (S.hE S.o_rcone_ok) (S.rTraps_r5 a b c d e) ⟨⟨⟨⟨⟨⟨⟨trivial, h0⟩, h1⟩, h2⟩, h3⟩, h4⟩, h5⟩, h6⟩).says (Says.int (by simp only [S.rTraps, h6, h5, h4, h3, h2, h1, h0, cond_true, cond_false]))
       ·
        rcases Bool.eq_false_or_eq_true (decide (e > 63)) with h7 | h7
        ·
         exact (sim_run (S.hE S.o_rcone_ok) (S.rTraps_r7 a b c d e) ⟨⟨⟨⟨⟨⟨⟨⟨trivial, h0⟩, h1⟩, h2⟩, h3⟩, h4⟩, h5⟩, h6⟩, h7⟩).says (Says.int (by simp only [S.rTraps, h7, h6, h5, h4, h3, h2, h1, h0, cond_true, cond_false]))
        ·
         exact (sim_run (S.hE S.o_rcone_ok) (S.rTraps_r8 a b c d e) ⟨⟨⟨⟨⟨⟨⟨⟨trivial, h0⟩, h1⟩, h2⟩, h3⟩, h4⟩, h5⟩, h6⟩, h7⟩).says (Says.int (by simp only [S.rTraps, h7, h6, h5, h4, h3, h2, h1, h0, cond_true, cond_false]))
      ·
       exact (sim_run (S.hE S.o_rcone_ok) (S.rTraps_r6 a b c d e) ⟨⟨⟨⟨⟨⟨trivial, h0⟩, h1⟩, h2⟩, h3⟩, h4⟩, h5⟩).says (Says.int (by simp only [S.rTraps, h5, h4, h3, h2, h1, h0, cond_true, cond_false]))
def S.o_rTraps : Orc := orcAdd 20 (fun | [.str true a, .agg [.int true .i64 b, .int true .i64 c], .agg [.int true .i64 d, .int true .i64 e]] => some (.int true .i64 (S.rTraps a b c d e)) | _ => none) S.o_rcone
theorem S.o_rTraps_ok : OrcOk prog S.o_rTraps := orcAdd_ok S.o_rcone_ok fun a v h => by
  try dsimp only at h
  split at h
  · rename_i a b c d e; cases h; exact S.rTraps_sim a b c d e
  · cases h
