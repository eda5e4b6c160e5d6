import Derived.Test.YtobomgckeoomkaaProg
import Derived.Test.YtobomgckeoomkaaImSym
set_option linter.unusedVariables false
set_option linter.unusedSimpArgs false
set_option maxRecDepth 100000
open Go Go.Im Go.Proofs.Try
theorem hmixed : prog.follows .mixedOrders = true := by kernel_rfl
def S.Has (a b c : Int) : Bool := (bif decide (a ≤ c) then (decide (c ≤ b)) else (false))
theorem S.Has_sim (a b c : Int) : Sim prog 33 [.agg [.int true .i64 a, .int true .i64 b], .int true .i64 c] [] (.bool true (S.Has a b c)) [] := by
 refine Sim.rng fun hrng => ?_
 try simp only [rngL, rngV, kLo, kHi] at hrng
 rcases Bool.eq_false_or_eq_true (decide (a ≤ c)) with h0 | h0
 ·
  exact (sim_run (E := envOf prog {} orcNil) (envOf_ok hmixed (orcNil_ok prog)) (show run _ 33 [.agg [.int true .i64 a, .int true .i64 b], .int true .i64 c] [] [.br true] = some (True ∧ decide (a ≤ c) = true, .bool true (decide (c ≤ b)), []) by kernel_rfl) ⟨trivial, h0⟩).says (Says.bool (by simp only [S.Has, h0, cond_true, cond_false]))
 ·
  exact (sim_run (E := envOf prog {} orcNil) (envOf_ok hmixed (orcNil_ok prog)) (show run _ 33 [.agg [.int true .i64 a, .int true .i64 b], .int true .i64 c] [] [.br false] = some (True ∧ decide (a ≤ c) = false, .bool false false, []) by kernel_rfl) ⟨trivial, h0⟩).says (Says.bool (by simp only [S.Has, h0, cond_true, cond_false]))
def S.o_Has : Orc := orcAdd 33 (fun | [.agg [.int true .i64 a, .int true .i64 b], .int true .i64 c] => some (.bool true (S.Has a b c)) | _ => none) orcNil
theorem S.o_Has_ok : OrcOk prog S.o_Has := orcAdd_ok (orcNil_ok prog) fun a v h => by
  try dsimp only at h
  split at h
  · rename_i a b c; cases h; exact S.Has_sim a b c
  · cases h
def S.rHas (a b c : Int) : Bool := (bif decide (a ≤ c) then (decide (c ≤ b)) else (false))
theorem S.rHas_sim (a b c : Int) : Sim prog 34 [.agg [.int true .i64 a, .int true .i64 b], .int true .i64 c] [] (.bool true (S.rHas a b c)) [] := by
 refine Sim.rng fun hrng => ?_
 try simp only [rngL, rngV, kLo, kHi] at hrng
 rcases Bool.eq_false_or_eq_true (decide (a ≤ c)) with h0 | h0
 ·
  exact (sim_run (E := envOf prog {} S.o_Has) (envOf_ok hmixed S.o_Has_ok) (show run _ 34 [.agg [.int true .i64 a, .int true .i64 b], .int true .i64 c] [] [.br true] = some (True ∧ decide (a ≤ c) = true, .bool true (decide (c ≤ b)), []) by kernel_rfl) ⟨trivial, h0⟩).says (Says.bool (by simp only [S.rHas, h0, cond_true, cond_false]))
 ·
  exact (sim_run (E := envOf prog {} S.o_Has) (envOf_ok hmixed S.o_Has_ok) (show run _ 34 [.agg [.int true .i64 a, .int true .i64 b], .int true .i64 c] [] [.br false] = some (True ∧ decide (a ≤ c) = false, .bool false false, []) by kernel_rfl) ⟨trivial, h0⟩).says (Says.bool (by simp only [S.rHas, h0, cond_true, cond_false]))
def S.o_rHas : Orc := orcAdd 34 (fun | [.agg [.int true .i64 a, .int true .i64 b], .int true .i64 c] => some (.bool true (S.rHas a b c)) | _ => none) S.o_Has
theorem S.o_rHas_ok : OrcOk prog S.o_rHas := orcAdd_ok S.o_Has_ok fun a v h => by
  try dsimp only at h
  split at h
  · rename_i a b c; cases h; exact S.rHas_sim a b c
  · cases h
def S.Empty (a b : Int) : Bool := (decide (a > b))
theorem S.Empty_sim (a b : Int) : Sim prog 35 [.agg [.int true .i64 a, .int true .i64 b]] [] (.bool true (S.Empty a b)) [] := by
 refine Sim.rng fun hrng => ?_
 try simp only [rngL, rngV, kLo, kHi] at hrng
 exact (sim_run (E := envOf prog {} S.o_rHas) (envOf_ok hmixed S.o_rHas_ok) (show run _ 35 [.agg [.int true .i64 a, .int true .i64 b]] [] [] = some (True, .bool true (decide (a > b)), []) by kernel_rfl) trivial).says (Says.bool (rfl))
def S.o_Empty : Orc := orcAdd 35 (fun | [.agg [.int true .i64 a, .int true .i64 b]] => some (.bool true (S.Empty a b)) | _ => none) S.o_rHas
theorem S.o_Empty_ok : OrcOk prog S.o_Empty := orcAdd_ok S.o_rHas_ok fun a v h => by
  try dsimp only at h
  split at h
  · rename_i a b; cases h; exact S.Empty_sim a b
  · cases h
def S.rEmpty (a b : Int) : Bool := (decide (a > b))
theorem S.rEmpty_sim (a b : Int) : Sim prog 36 [.agg [.int true .i64 a, .int true .i64 b]] [] (.bool true (S.rEmpty a b)) [] := by
 refine Sim.rng fun hrng => ?_
 try simp only [rngL, rngV, kLo, kHi] at hrng
 exact (sim_run (E := envOf prog {} S.o_Empty) (envOf_ok hmixed S.o_Empty_ok) (show run _ 36 [.agg [.int true .i64 a, .int true .i64 b]] [] [] = some (True, .bool true (decide (a > b)), []) by kernel_rfl) trivial).says (Says.bool (rfl))
def S.o_rEmpty : Orc := orcAdd 36 (fun | [.agg [.int true .i64 a, .int true .i64 b]] => some (.bool true (S.rEmpty a b)) | _ => none) S.o_Empty
theorem S.o_rEmpty_ok : OrcOk prog S.o_rEmpty := orcAdd_ok S.o_Empty_ok fun a v h => by
  try dsimp only at h
  split at h
  · rename_i a b; cases h; exact S.rEmpty_sim a b
  · cases h
def S.One_0 (a b : Int) : Int := (bif a != b then (0) else (a))
def S.One_1 (a b : Int) : Bool := (bif a != b then (false) else (true))
theorem S.One_sim (a b : Int) : Sim prog 14 [.agg [.int true .i64 a, .int true .i64 b]] [] (.tup [.int true .i64 (S.One_0 a b), .bool true (S.One_1 a b)]) [] := by
 refine Sim.rng fun hrng => ?_
 try simp only [rngL, rngV, kLo, kHi] at hrng
 rcases Bool.eq_false_or_eq_true (a != b) with h0 | h0
 ·
  exact (sim_run (E := envOf prog {} S.o_rEmpty) (envOf_ok hmixed S.o_rEmpty_ok) (show run _ 14 [.agg [.int true .i64 a, .int true .i64 b]] [] [.br true] = some (True ∧ (a != b) = true, .tup [.int false .i64 0, .bool false false], []) by kernel_rfl) ⟨trivial, h0⟩).says (Says.tup (.cons (Says.int (by simp only [S.One_0, h0, cond_true, cond_false])) (.cons (Says.bool (by simp only [S.One_1, h0, cond_true, cond_false])) (.nil))))
 ·
  exact (sim_run (E := envOf prog {} S.o_rEmpty) (envOf_ok hmixed S.o_rEmpty_ok) (show run _ 14 [.agg [.int true .i64 a, .int true .i64 b]] [] [.br false] = some (True ∧ (a != b) = false, .tup [.int true .i64 a, .bool false true], []) by kernel_rfl) ⟨trivial, h0⟩).says (Says.tup (.cons (Says.int (by simp only [S.One_0, h0, cond_true, cond_false])) (.cons (Says.bool (by simp only [S.One_1, h0, cond_true, cond_false])) (.nil))))
def S.o_One : Orc := orcAdd 14 (fun | [.agg [.int true .i64 a, .int true .i64 b]] => some (.tup [.int true .i64 (S.One_0 a b), .bool true (S.One_1 a b)]) | _ => none) S.o_rEmpty
theorem S.o_One_ok : OrcOk prog S.o_One := orcAdd_ok S.o_rEmpty_ok fun a v h => by
  try dsimp only at h
  split at h
  · rename_i a b; cases h; exact S.One_sim a b
  · cases h
def S.is (a b c d : Int) : Bool := (bif a == c then (b == d) else (false))
theorem S.is_sim (a b c d : Int) : Sim prog 40 [.agg [.int true .i64 a, .int true .i64 b], .agg [.int true .i64 c, .int true .i64 d]] [] (.bool true (S.is a b c d)) [] := by
 refine Sim.rng fun hrng => ?_
 try simp only [rngL, rngV, kLo, kHi] at hrng
 rcases Bool.eq_false_or_eq_true (a == c) with h0 | h0
 ·
  exact (sim_run (E := envOf prog {} S.o_One) (envOf_ok hmixed S.o_One_ok) (show run _ 40 [.agg [.int true .i64 a, .int true .i64 b], .agg [.int true .i64 c, .int true .i64 d]] [] [.br true] = some (True ∧ (a == c) = true, .bool true (b == d), []) by kernel_rfl) ⟨trivial, h0⟩).says (Says.bool (by simp only [S.is, h0, cond_true, cond_false]))
 ·
  exact (sim_run (E := envOf prog {} S.o_One) (envOf_ok hmixed S.o_One_ok) (show run _ 40 [.agg [.int true .i64 a, .int true .i64 b], .agg [.int true .i64 c, .int true .i64 d]] [] [.br false] = some (True ∧ (a == c) = false, .bool false false, []) by kernel_rfl) ⟨trivial, h0⟩).says (Says.bool (by simp only [S.is, h0, cond_true, cond_false]))
def S.o_is : Orc := orcAdd 40 (fun | [.agg [.int true .i64 a, .int true .i64 b], .agg [.int true .i64 c, .int true .i64 d]] => some (.bool true (S.is a b c d)) | _ => none) S.o_One
theorem S.o_is_ok : OrcOk prog S.o_is := orcAdd_ok S.o_One_ok fun a v h => by
  try dsimp only at h
  split at h
  · rename_i a b c d; cases h; exact S.is_sim a b c d
  · cases h
def S.Of_0 (a : Int) : Int := (a)
def S.Of_1 (a : Int) : Int := (a)
theorem S.Of_sim (a : Int) : Sim prog 41 [.int true .i64 a] [] (.agg [.int true .i64 (S.Of_0 a), .int true .i64 (S.Of_1 a)]) [] := by
 refine Sim.rng fun hrng => ?_
 try simp only [rngL, rngV, kLo, kHi] at hrng
 exact (sim_run (E := envOf prog {} S.o_is) (envOf_ok hmixed S.o_is_ok) (show run _ 41 [.int true .i64 a] [] [] = some (True, .agg [.int true .i64 a, .int true .i64 a], []) by kernel_rfl) trivial).says (Says.agg (.cons (Says.int (rfl)) (.cons (Says.int (rfl)) (.nil))))
def S.o_Of : Orc := orcAdd 41 (fun | [.int true .i64 a] => some (.agg [.int true .i64 (S.Of_0 a), .int true .i64 (S.Of_1 a)]) | _ => none) S.o_is
theorem S.o_Of_ok : OrcOk prog S.o_Of := orcAdd_ok S.o_is_ok fun a v h => by
  try dsimp only at h
  split at h
  · rename_i a; cases h; exact S.Of_sim a
  · cases h
def S.Top_0  : Int := (-9223372036854775808)
def S.Top_1  : Int := (9223372036854775807)
theorem S.Top_sim  : Sim prog 39 [] [] (.agg [.int true .i64 (S.Top_0 ), .int true .i64 (S.Top_1 )]) [] := by
 refine Sim.rng fun hrng => ?_
 try simp only [rngL, rngV, kLo, kHi] at hrng
 exact (sim_run (E := envOf prog {} S.o_Of) (envOf_ok hmixed S.o_Of_ok) (show run _ 39 [] [] [] = some (True, .agg [.int false .i64 (-9223372036854775808), .int false .i64 9223372036854775807], []) by kernel_rfl) trivial).says (Says.agg (.cons (Says.int (rfl)) (.cons (Says.int (rfl)) (.nil))))
def S.o_Top : Orc := orcAdd 39 (fun | [] => some (.agg [.int true .i64 (S.Top_0 ), .int true .i64 (S.Top_1 )]) | _ => none) S.o_Of
theorem S.o_Top_ok : OrcOk prog S.o_Top := orcAdd_ok S.o_Of_ok fun a v h => by
  try dsimp only at h
  split at h
  · cases h; exact S.Top_sim 
  · cases h
def S.None_0  : Int := (1)
def S.None_1  : Int := (0)
theorem S.None_sim  : Sim prog 43 [] [] (.agg [.int true .i64 (S.None_0 ), .int true .i64 (S.None_1 )]) [] := by
 refine Sim.rng fun hrng => ?_
 try simp only [rngL, rngV, kLo, kHi] at hrng
 exact (sim_run (E := envOf prog {} S.o_Top) (envOf_ok hmixed S.o_Top_ok) (show run _ 43 [] [] [] = some (True, .agg [.int false .i64 1, .int false .i64 0], []) by kernel_rfl) trivial).says (Says.agg (.cons (Says.int (rfl)) (.cons (Says.int (rfl)) (.nil))))
def S.o_None : Orc := orcAdd 43 (fun | [] => some (.agg [.int true .i64 (S.None_0 ), .int true .i64 (S.None_1 )]) | _ => none) S.o_Top
theorem S.o_None_ok : OrcOk prog S.o_None := orcAdd_ok S.o_Top_ok fun a v h => by
  try dsimp only at h
  split at h
  · cases h; exact S.None_sim 
  · cases h
def S.rTop_0  : Int := (-9223372036854775808)
def S.rTop_1  : Int := (9223372036854775807)
theorem S.rTop_sim  : Sim prog 60 [] [] (.agg [.int true .i64 (S.rTop_0 ), .int true .i64 (S.rTop_1 )]) [] := by
 refine Sim.rng fun hrng => ?_
 try simp only [rngL, rngV, kLo, kHi] at hrng
 exact (sim_run (E := envOf prog {} S.o_None) (envOf_ok hmixed S.o_None_ok) (show run _ 60 [] [] [] = some (True, .agg [.int false .i64 (-9223372036854775808), .int false .i64 9223372036854775807], []) by kernel_rfl) trivial).says (Says.agg (.cons (Says.int (rfl)) (.cons (Says.int (rfl)) (.nil))))
def S.o_rTop : Orc := orcAdd 60 (fun | [] => some (.agg [.int true .i64 (S.rTop_0 ), .int true .i64 (S.rTop_1 )]) | _ => none) S.o_None
theorem S.o_rTop_ok : OrcOk prog S.o_rTop := orcAdd_ok S.o_None_ok fun a v h => by
  try dsimp only at h
  split at h
  · cases h; exact S.rTop_sim 
  · cases h
def S.rspan_0 (a b : Int) : Int := (bif decide (a > b) then (1) else (a))
def S.rspan_1 (a b : Int) : Int := (bif decide (a > b) then (0) else (b))
theorem S.rspan_sim (a b : Int) : Sim prog 67 [.int true .i64 a, .int true .i64 b] [] (.agg [.int true .i64 (S.rspan_0 a b), .int true .i64 (S.rspan_1 a b)]) [] := by
 refine Sim.rng fun hrng => ?_
 try simp only [rngL, rngV, kLo, kHi] at hrng
 rcases Bool.eq_false_or_eq_true (decide (a > b)) with h0 | h0
 ·
  exact (sim_run (E := envOf prog {} S.o_rTop) (envOf_ok hmixed S.o_rTop_ok) (show run _ 67 [.int true .i64 a, .int true .i64 b] [] [.br true] = some (True ∧ decide (a > b) = true, .agg [.int false .i64 1, .int false .i64 0], []) by kernel_rfl) ⟨trivial, h0⟩).says (Says.agg (.cons (Says.int (by simp only [S.rspan_0, h0, cond_true, cond_false])) (.cons (Says.int (by simp only [S.rspan_1, h0, cond_true, cond_false])) (.nil))))
 ·
  exact (sim_run (E := envOf prog {} S.o_rTop) (envOf_ok hmixed S.o_rTop_ok) (show run _ 67 [.int true .i64 a, .int true .i64 b] [] [.br false] = some (True ∧ decide (a > b) = false, .agg [.int true .i64 a, .int true .i64 b], []) by kernel_rfl) ⟨trivial, h0⟩).says (Says.agg (.cons (Says.int (by simp only [S.rspan_0, h0, cond_true, cond_false])) (.cons (Says.int (by simp only [S.rspan_1, h0, cond_true, cond_false])) (.nil))))
def S.o_rspan : Orc := orcAdd 67 (fun | [.int true .i64 a, .int true .i64 b] => some (.agg [.int true .i64 (S.rspan_0 a b), .int true .i64 (S.rspan_1 a b)]) | _ => none) S.o_rTop
theorem S.o_rspan_ok : OrcOk prog S.o_rspan := orcAdd_ok S.o_rTop_ok fun a v h => by
  try dsimp only at h
  split at h
  · rename_i a b; cases h; exact S.rspan_sim a b
  · cases h
def S.of_0 (a b : Int) : Int := (bif decide (a > b) then (S.None_0) else (a))
def S.of_1 (a b : Int) : Int := (bif decide (a > b) then (S.None_1) else (b))
theorem S.of_sim (a b : Int) : Sim prog 68 [.int true .i64 a, .int true .i64 b] [] (.agg [.int true .i64 (S.of_0 a b), .int true .i64 (S.of_1 a b)]) [] := by
 refine Sim.rng fun hrng => ?_
 try simp only [rngL, rngV, kLo, kHi] at hrng
 rcases Bool.eq_false_or_eq_true (decide (a > b)) with h0 | h0
 ·
  exact (sim_run (E := envOf prog {} S.o_rspan) (envOf_ok hmixed S.o_rspan_ok) (show run _ 68 [.int true .i64 a, .int true .i64 b] [] [.br true] = some (True ∧ decide (a > b) = true, .agg [.int true .i64 S.None_0, .int true .i64 S.None_1], []) by kernel_rfl) ⟨trivial, h0⟩).says (Says.agg (.cons (Says.int (by simp only [S.of_0, h0, cond_true, cond_false])) (.cons (Says.int (by simp only [S.of_1, h0, cond_true, cond_false])) (.nil))))
 ·
  exact (sim_run (E := envOf prog {} S.o_rspan) (envOf_ok hmixed S.o_rspan_ok) (show run _ 68 [.int true .i64 a, .int true .i64 b] [] [.br false] = some (True ∧ decide (a > b) = false, .agg [.int true .i64 a, .int true .i64 b], []) by kernel_rfl) ⟨trivial, h0⟩).says (Says.agg (.cons (Says.int (by simp only [S.of_0, h0, cond_true, cond_false])) (.cons (Says.int (by simp only [S.of_1, h0, cond_true, cond_false])) (.nil))))
def S.o_of : Orc := orcAdd 68 (fun | [.int true .i64 a, .int true .i64 b] => some (.agg [.int true .i64 (S.of_0 a b), .int true .i64 (S.of_1 a b)]) | _ => none) S.o_rspan
theorem S.o_of_ok : OrcOk prog S.o_of := orcAdd_ok S.o_rspan_ok fun a v h => by
  try dsimp only at h
  split at h
  · rename_i a b; cases h; exact S.of_sim a b
  · cases h
def S.Join_0 (a b c d : Int) : Int := (bif S.Empty a b then (S.of_0 c d) else (bif S.Empty c d then (a) else (if true = true then if c < a then c else a else if c > a then c else a)))
def S.Join_1 (a b c d : Int) : Int := (bif S.Empty a b then (S.of_1 c d) else (bif S.Empty c d then (b) else (if false = true then if d < b then d else b else if d > b then d else b)))
theorem S.Join_sim (a b c d : Int) : Sim prog 23 [.agg [.int true .i64 a, .int true .i64 b], .agg [.int true .i64 c, .int true .i64 d]] [] (.agg [.int true .i64 (S.Join_0 a b c d), .int true .i64 (S.Join_1 a b c d)]) [] := by
 refine Sim.rng fun hrng => ?_
 try simp only [rngL, rngV, kLo, kHi] at hrng
 rcases Bool.eq_false_or_eq_true (S.Empty a b) with h0 | h0
 ·
  exact (sim_run (E := envOf prog {} S.o_of) (envOf_ok hmixed S.o_of_ok) (show run _ 23 [.agg [.int true .i64 a, .int true .i64 b], .agg [.int true .i64 c, .int true .i64 d]] [] [.br true] = some (True ∧ S.Empty a b = true, .agg [.int true .i64 (S.of_0 c d), .int true .i64 (S.of_1 c d)], []) by kernel_rfl) ⟨trivial, h0⟩).says (Says.agg (.cons (Says.int (by simp only [S.Join_0, h0, cond_true, cond_false])) (.cons (Says.int (by simp only [S.Join_1, h0, cond_true, cond_false])) (.nil))))
 ·
  rcases Bool.eq_false_or_eq_true (S.Empty c d) with h1 | h1
  ·
   exact (sim_run (E := envOf prog {} S.o_of) (envOf_ok hmixed S.o_of_ok) (show run _ 23 [.agg [.int true .i64 a, .int true .i64 b], .agg [.int true .i64 c, .int true .i64 d]] [] [.br false, .br true] = some ((True ∧ S.Empty a b = false) ∧ S.Empty c d = true, .agg [.int true .i64 a, .int true .i64 b], []) by kernel_rfl) ⟨⟨trivial, h0⟩, h1⟩).says (Says.agg (.cons (Says.int (by simp only [S.Join_0, h1, h0, cond_true, cond_false])) (.cons (Says.int (by simp only [S.Join_1, h1, h0, cond_true, cond_false])) (.nil))))
  ·
   exact (sim_run (E := envOf prog {} S.o_of) (envOf_ok hmixed S.o_of_ok) (show run _ 23 [.agg [.int true .i64 a, .int true .i64 b], .agg [.int true .i64 c, .int true .i64 d]] [] [.br false, .br false] = some ((True ∧ S.Empty a b = false) ∧ S.Empty c d = false, .agg [.int true .i64 (if true = true then if c < a then c else a else if c > a then c else a), .int true .i64 (if false = true then if d < b then d else b else if d > b then d else b)], []) by kernel_rfl) ⟨⟨trivial, h0⟩, h1⟩).says (Says.agg (.cons (Says.int (by simp only [S.Join_0, h1, h0, cond_true, cond_false])) (.cons (Says.int (by simp only [S.Join_1, h1, h0, cond_true, cond_false])) (.nil))))
def S.o_Join : Orc := orcAdd 23 (fun | [.agg [.int true .i64 a, .int true .i64 b], .agg [.int true .i64 c, .int true .i64 d]] => some (.agg [.int true .i64 (S.Join_0 a b c d), .int true .i64 (S.Join_1 a b c d)]) | _ => none) S.o_of
theorem S.o_Join_ok : OrcOk prog S.o_Join := orcAdd_ok S.o_of_ok fun a v h => by
  try dsimp only at h
  split at h
  · rename_i a b c d; cases h; exact S.Join_sim a b c d
  · cases h
def S.rJoin_0 (a b c d : Int) : Int := (bif S.rEmpty a b then (S.rspan_0 c d) else (bif S.rEmpty c d then (a) else (S.rspan_0 (if true = true then if c < a then c else a else if c > a then c else a) (if false = true then if d < b then d else b else if d > b then d else b))))
def S.rJoin_1 (a b c d : Int) : Int := (bif S.rEmpty a b then (S.rspan_1 c d) else (bif S.rEmpty c d then (b) else (S.rspan_1 (if true = true then if c < a then c else a else if c > a then c else a) (if false = true then if d < b then d else b else if d > b then d else b))))
theorem S.rJoin_sim (a b c d : Int) : Sim prog 24 [.agg [.int true .i64 a, .int true .i64 b], .agg [.int true .i64 c, .int true .i64 d]] [] (.agg [.int true .i64 (S.rJoin_0 a b c d), .int true .i64 (S.rJoin_1 a b c d)]) [] := by
 refine Sim.rng fun hrng => ?_
 try simp only [rngL, rngV, kLo, kHi] at hrng
 rcases Bool.eq_false_or_eq_true (S.rEmpty a b) with h0 | h0
 ·
  exact (sim_run (E := envOf prog {} S.o_Join) (envOf_ok hmixed S.o_Join_ok) (show run _ 24 [.agg [.int true .i64 a, .int true .i64 b], .agg [.int true .i64 c, .int true .i64 d]] [] [.br true] = some (True ∧ S.rEmpty a b = true, .agg [.int true .i64 (S.rspan_0 c d), .int true .i64 (S.rspan_1 c d)], []) by kernel_rfl) ⟨trivial, h0⟩).says (Says.agg (.cons (Says.int (by simp only [S.rJoin_0, h0, cond_true, cond_false])) (.cons (Says.int (by simp only [S.rJoin_1, h0, cond_true, cond_false])) (.nil))))
 ·
  rcases Bool.eq_false_or_eq_true (S.rEmpty c d) with h1 | h1
  ·
   exact (sim_run (E := envOf prog {} S.o_Join) (envOf_ok hmixed S.o_Join_ok) (show run _ 24 [.agg [.int true .i64 a, .int true .i64 b], .agg [.int true .i64 c, .int true .i64 d]] [] [.br false, .br true] = some ((True ∧ S.rEmpty a b = false) ∧ S.rEmpty c d = true, .agg [.int true .i64 a, .int true .i64 b], []) by kernel_rfl) ⟨⟨trivial, h0⟩, h1⟩).says (Says.agg (.cons (Says.int (by simp only [S.rJoin_0, h1, h0, cond_true, cond_false])) (.cons (Says.int (by simp only [S.rJoin_1, h1, h0, cond_true, cond_false])) (.nil))))
  ·
   exact (sim_run (E := envOf prog {} S.o_Join) (envOf_ok hmixed S.o_Join_ok) (show run _ 24 [.agg [.int true .i64 a, .int true .i64 b], .agg [.int true .i64 c, .int true .i64 d]] [] [.br false, .br false] = some ((True ∧ S.rEmpty a b = false) ∧ S.rEmpty c d = false, .agg [.int true .i64 (S.rspan_0 (if true = true then if c < a then c else a else if c > a then c else a) (if false = true then if d < b then d else b else if d > b then d else b)), .int true .i64 (S.rspan_1 (if true = true then if c < a then c else a else if c > a then c else a) (if false = true then if d < b then d else b else if d > b then d else b))], []) by kernel_rfl) ⟨⟨trivial, h0⟩, h1⟩).says (Says.agg (.cons (Says.int (by simp only [S.rJoin_0, h1, h0, cond_true, cond_false])) (.cons (Says.int (by simp only [S.rJoin_1, h1, h0, cond_true, cond_false])) (.nil))))
def S.o_rJoin : Orc := orcAdd 24 (fun | [.agg [.int true .i64 a, .int true .i64 b], .agg [.int true .i64 c, .int true .i64 d]] => some (.agg [.int true .i64 (S.rJoin_0 a b c d), .int true .i64 (S.rJoin_1 a b c d)]) | _ => none) S.o_Join
theorem S.o_rJoin_ok : OrcOk prog S.o_rJoin := orcAdd_ok S.o_Join_ok fun a v h => by
  try dsimp only at h
  split at h
  · rename_i a b c d; cases h; exact S.rJoin_sim a b c d
  · cases h
def S.Meet_0 (a b c d : Int) : Int := (S.of_0 (if false = true then if c < a then c else a else if c > a then c else a) (if true = true then if d < b then d else b else if d > b then d else b))
def S.Meet_1 (a b c d : Int) : Int := (S.of_1 (if false = true then if c < a then c else a else if c > a then c else a) (if true = true then if d < b then d else b else if d > b then d else b))
theorem S.Meet_sim (a b c d : Int) : Sim prog 25 [.agg [.int true .i64 a, .int true .i64 b], .agg [.int true .i64 c, .int true .i64 d]] [] (.agg [.int true .i64 (S.Meet_0 a b c d), .int true .i64 (S.Meet_1 a b c d)]) [] := by
 refine Sim.rng fun hrng => ?_
 try simp only [rngL, rngV, kLo, kHi] at hrng
 exact (sim_run (E := envOf prog {} S.o_rJoin) (envOf_ok hmixed S.o_rJoin_ok) (show run _ 25 [.agg [.int true .i64 a, .int true .i64 b], .agg [.int true .i64 c, .int true .i64 d]] [] [] = some (True, .agg [.int true .i64 (S.of_0 (if false = true then if c < a then c else a else if c > a then c else a) (if true = true then if d < b then d else b else if d > b then d else b)), .int true .i64 (S.of_1 (if false = true then if c < a then c else a else if c > a then c else a) (if true = true then if d < b then d else b else if d > b then d else b))], []) by kernel_rfl) trivial).says (Says.agg (.cons (Says.int (rfl)) (.cons (Says.int (rfl)) (.nil))))
def S.o_Meet : Orc := orcAdd 25 (fun | [.agg [.int true .i64 a, .int true .i64 b], .agg [.int true .i64 c, .int true .i64 d]] => some (.agg [.int true .i64 (S.Meet_0 a b c d), .int true .i64 (S.Meet_1 a b c d)]) | _ => none) S.o_rJoin
theorem S.o_Meet_ok : OrcOk prog S.o_Meet := orcAdd_ok S.o_rJoin_ok fun a v h => by
  try dsimp only at h
  split at h
  · rename_i a b c d; cases h; exact S.Meet_sim a b c d
  · cases h
def S.rMeet_0 (a b c d : Int) : Int := (S.rspan_0 (if false = true then if c < a then c else a else if c > a then c else a) (if true = true then if d < b then d else b else if d > b then d else b))
def S.rMeet_1 (a b c d : Int) : Int := (S.rspan_1 (if false = true then if c < a then c else a else if c > a then c else a) (if true = true then if d < b then d else b else if d > b then d else b))
theorem S.rMeet_sim (a b c d : Int) : Sim prog 26 [.agg [.int true .i64 a, .int true .i64 b], .agg [.int true .i64 c, .int true .i64 d]] [] (.agg [.int true .i64 (S.rMeet_0 a b c d), .int true .i64 (S.rMeet_1 a b c d)]) [] := by
 refine Sim.rng fun hrng => ?_
 try simp only [rngL, rngV, kLo, kHi] at hrng
 exact (sim_run (E := envOf prog {} S.o_Meet) (envOf_ok hmixed S.o_Meet_ok) (show run _ 26 [.agg [.int true .i64 a, .int true .i64 b], .agg [.int true .i64 c, .int true .i64 d]] [] [] = some (True, .agg [.int true .i64 (S.rspan_0 (if false = true then if c < a then c else a else if c > a then c else a) (if true = true then if d < b then d else b else if d > b then d else b)), .int true .i64 (S.rspan_1 (if false = true then if c < a then c else a else if c > a then c else a) (if true = true then if d < b then d else b else if d > b then d else b))], []) by kernel_rfl) trivial).says (Says.agg (.cons (Says.int (rfl)) (.cons (Says.int (rfl)) (.nil))))
def S.o_rMeet : Orc := orcAdd 26 (fun | [.agg [.int true .i64 a, .int true .i64 b], .agg [.int true .i64 c, .int true .i64 d]] => some (.agg [.int true .i64 (S.rMeet_0 a b c d), .int true .i64 (S.rMeet_1 a b c d)]) | _ => none) S.o_Meet
theorem S.o_rMeet_ok : OrcOk prog S.o_rMeet := orcAdd_ok S.o_Meet_ok fun a v h => by
  try dsimp only at h
  split at h
  · rename_i a b c d; cases h; exact S.rMeet_sim a b c d
  · cases h
def S.In (a b c d : Int) : Bool := (bif S.Empty a b then (true) else (bif decide (c ≤ a) then (decide (b ≤ d)) else (false)))
theorem S.In_sim (a b c d : Int) : Sim prog 29 [.agg [.int true .i64 a, .int true .i64 b], .agg [.int true .i64 c, .int true .i64 d]] [] (.bool true (S.In a b c d)) [] := by
 refine Sim.rng fun hrng => ?_
 try simp only [rngL, rngV, kLo, kHi] at hrng
 rcases Bool.eq_false_or_eq_true (S.Empty a b) with h0 | h0
 ·
  exact (sim_run (E := envOf prog {} S.o_rMeet) (envOf_ok hmixed S.o_rMeet_ok) (show run _ 29 [.agg [.int true .i64 a, .int true .i64 b], .agg [.int true .i64 c, .int true .i64 d]] [] [.br true] = some (True ∧ S.Empty a b = true, .bool false true, []) by kernel_rfl) ⟨trivial, h0⟩).says (Says.bool (by simp only [S.In, h0, cond_true, cond_false]))
 ·
  rcases Bool.eq_false_or_eq_true (decide (c ≤ a)) with h1 | h1
  ·
   exact (sim_run (E := envOf prog {} S.o_rMeet) (envOf_ok hmixed S.o_rMeet_ok) (show run _ 29 [.agg [.int true .i64 a, .int true .i64 b], .agg [.int true .i64 c, .int true .i64 d]] [] [.br false, .br true] = some ((True ∧ S.Empty a b = false) ∧ decide (c ≤ a) = true, .bool true (decide (b ≤ d)), []) by kernel_rfl) ⟨⟨trivial, h0⟩, h1⟩).says (Says.bool (by simp only [S.In, h1, h0, cond_true, cond_false]))
  ·
   exact (sim_run (E := envOf prog {} S.o_rMeet) (envOf_ok hmixed S.o_rMeet_ok) (show run _ 29 [.agg [.int true .i64 a, .int true .i64 b], .agg [.int true .i64 c, .int true .i64 d]] [] [.br false, .br false] = some ((True ∧ S.Empty a b = false) ∧ decide (c ≤ a) = false, .bool false false, []) by kernel_rfl) ⟨⟨trivial, h0⟩, h1⟩).says (Says.bool (by simp only [S.In, h1, h0, cond_true, cond_false]))
def S.o_In : Orc := orcAdd 29 (fun | [.agg [.int true .i64 a, .int true .i64 b], .agg [.int true .i64 c, .int true .i64 d]] => some (.bool true (S.In a b c d)) | _ => none) S.o_rMeet
theorem S.o_In_ok : OrcOk prog S.o_In := orcAdd_ok S.o_rMeet_ok fun a v h => by
  try dsimp only at h
  split at h
  · rename_i a b c d; cases h; exact S.In_sim a b c d
  · cases h
def S.rIn (a b c d : Int) : Bool := (bif S.rEmpty a b then (true) else (bif S.rHas c d a then (S.rHas c d b) else (false)))
theorem S.rIn_sim (a b c d : Int) : Sim prog 30 [.agg [.int true .i64 a, .int true .i64 b], .agg [.int true .i64 c, .int true .i64 d]] [] (.bool true (S.rIn a b c d)) [] := by
 refine Sim.rng fun hrng => ?_
 try simp only [rngL, rngV, kLo, kHi] at hrng
 rcases Bool.eq_false_or_eq_true (S.rEmpty a b) with h0 | h0
 ·
  exact (sim_run (E := envOf prog {} S.o_In) (envOf_ok hmixed S.o_In_ok) (show run _ 30 [.agg [.int true .i64 a, .int true .i64 b], .agg [.int true .i64 c, .int true .i64 d]] [] [.br true] = some (True ∧ S.rEmpty a b = true, .bool false true, []) by kernel_rfl) ⟨trivial, h0⟩).says (Says.bool (by simp only [S.rIn, h0, cond_true, cond_false]))
 ·
  rcases Bool.eq_false_or_eq_true (S.rHas c d a) with h1 | h1
  ·
   exact (sim_run (E := envOf prog {} S.o_In) (envOf_ok hmixed S.o_In_ok) (show run _ 30 [.agg [.int true .i64 a, .int true .i64 b], .agg [.int true .i64 c, .int true .i64 d]] [] [.br false, .br true] = some ((True ∧ S.rEmpty a b = false) ∧ S.rHas c d a = true, .bool true (S.rHas c d b), []) by kernel_rfl) ⟨⟨trivial, h0⟩, h1⟩).says (Says.bool (by simp only [S.rIn, h1, h0, cond_true, cond_false]))
  ·
   exact (sim_run (E := envOf prog {} S.o_In) (envOf_ok hmixed S.o_In_ok) (show run _ 30 [.agg [.int true .i64 a, .int true .i64 b], .agg [.int true .i64 c, .int true .i64 d]] [] [.br false, .br false] = some ((True ∧ S.rEmpty a b = false) ∧ S.rHas c d a = false, .bool false false, []) by kernel_rfl) ⟨⟨trivial, h0⟩, h1⟩).says (Says.bool (by simp only [S.rIn, h1, h0, cond_true, cond_false]))
def S.o_rIn : Orc := orcAdd 30 (fun | [.agg [.int true .i64 a, .int true .i64 b], .agg [.int true .i64 c, .int true .i64 d]] => some (.bool true (S.rIn a b c d)) | _ => none) S.o_In
theorem S.o_rIn_ok : OrcOk prog S.o_rIn := orcAdd_ok S.o_In_ok fun a v h => by
  try dsimp only at h
  split at h
  · rename_i a b c d; cases h; exact S.rIn_sim a b c d
  · cases h
def S.told_0 (a b : Bool) : Int := (bif a then (bif b then (S.Join_0 (S.Join_0 S.None_0 S.None_1 (S.Of_0 0) (S.Of_1 0)) (S.Join_1 S.None_0 S.None_1 (S.Of_0 0) (S.Of_1 0)) (S.Of_0 1) (S.Of_1 1)) else (S.Join_0 S.None_0 S.None_1 (S.Of_0 0) (S.Of_1 0))) else (bif b then (S.Join_0 S.None_0 S.None_1 (S.Of_0 1) (S.Of_1 1)) else (S.None_0)))
def S.told_1 (a b : Bool) : Int := (bif a then (bif b then (S.Join_1 (S.Join_0 S.None_0 S.None_1 (S.Of_0 0) (S.Of_1 0)) (S.Join_1 S.None_0 S.None_1 (S.Of_0 0) (S.Of_1 0)) (S.Of_0 1) (S.Of_1 1)) else (S.Join_1 S.None_0 S.None_1 (S.Of_0 0) (S.Of_1 0))) else (bif b then (S.Join_1 S.None_0 S.None_1 (S.Of_0 1) (S.Of_1 1)) else (S.None_1)))
theorem S.told_sim (a b : Bool) : Sim prog 72 [.bool true a, .bool true b] [] (.agg [.int true .i64 (S.told_0 a b), .int true .i64 (S.told_1 a b)]) [] := by
 refine Sim.rng fun hrng => ?_
 try simp only [rngL, rngV, kLo, kHi] at hrng
 rcases Bool.eq_false_or_eq_true (a) with h0 | h0
 ·
  rcases Bool.eq_false_or_eq_true (b) with h1 | h1
  ·
   exact (sim_run (E := envOf prog {} S.o_rIn) (envOf_ok hmixed S.o_rIn_ok) (show run _ 72 [.bool true a, .bool true b] [] [.br true, .br true] = some ((True ∧ a = true) ∧ b = true, .agg [.int true .i64 (S.Join_0 (S.Join_0 S.None_0 S.None_1 (S.Of_0 0) (S.Of_1 0)) (S.Join_1 S.None_0 S.None_1 (S.Of_0 0) (S.Of_1 0)) (S.Of_0 1) (S.Of_1 1)), .int true .i64 (S.Join_1 (S.Join_0 S.None_0 S.None_1 (S.Of_0 0) (S.Of_1 0)) (S.Join_1 S.None_0 S.None_1 (S.Of_0 0) (S.Of_1 0)) (S.Of_0 1) (S.Of_1 1))], []) by kernel_rfl) ⟨⟨trivial, h0⟩, h1⟩).says (Says.agg (.cons (Says.int (by simp only [S.told_0, h1, h0, cond_true, cond_false])) (.cons (Says.int (by simp only [S.told_1, h1, h0, cond_true, cond_false])) (.nil))))
  ·
   exact (sim_run (E := envOf prog {} S.o_rIn) (envOf_ok hmixed S.o_rIn_ok) (show run _ 72 [.bool true a, .bool true b] [] [.br true, .br false] = some ((True ∧ a = true) ∧ b = false, .agg [.int true .i64 (S.Join_0 S.None_0 S.None_1 (S.Of_0 0) (S.Of_1 0)), .int true .i64 (S.Join_1 S.None_0 S.None_1 (S.Of_0 0) (S.Of_1 0))], []) by kernel_rfl) ⟨⟨trivial, h0⟩, h1⟩).says (Says.agg (.cons (Says.int (by simp only [S.told_0, h1, h0, cond_true, cond_false])) (.cons (Says.int (by simp only [S.told_1, h1, h0, cond_true, cond_false])) (.nil))))
 ·
  rcases Bool.eq_false_or_eq_true (b) with h1 | h1
  ·
   exact (sim_run (E := envOf prog {} S.o_rIn) (envOf_ok hmixed S.o_rIn_ok) (show run _ 72 [.bool true a, .bool true b] [] [.br false, .br true] = some ((True ∧ a = false) ∧ b = true, .agg [.int true .i64 (S.Join_0 S.None_0 S.None_1 (S.Of_0 1) (S.Of_1 1)), .int true .i64 (S.Join_1 S.None_0 S.None_1 (S.Of_0 1) (S.Of_1 1))], []) by kernel_rfl) ⟨⟨trivial, h0⟩, h1⟩).says (Says.agg (.cons (Says.int (by simp only [S.told_0, h1, h0, cond_true, cond_false])) (.cons (Says.int (by simp only [S.told_1, h1, h0, cond_true, cond_false])) (.nil))))
  ·
   exact (sim_run (E := envOf prog {} S.o_rIn) (envOf_ok hmixed S.o_rIn_ok) (show run _ 72 [.bool true a, .bool true b] [] [.br false, .br false] = some ((True ∧ a = false) ∧ b = false, .agg [.int true .i64 S.None_0, .int true .i64 S.None_1], []) by kernel_rfl) ⟨⟨trivial, h0⟩, h1⟩).says (Says.agg (.cons (Says.int (by simp only [S.told_0, h1, h0, cond_true, cond_false])) (.cons (Says.int (by simp only [S.told_1, h1, h0, cond_true, cond_false])) (.nil))))
def S.o_told : Orc := orcAdd 72 (fun | [.bool true a, .bool true b] => some (.agg [.int true .i64 (S.told_0 a b), .int true .i64 (S.told_1 a b)]) | _ => none) S.o_rIn
theorem S.o_told_ok : OrcOk prog S.o_told := orcAdd_ok S.o_rIn_ok fun a v h => by
  try dsimp only at h
  split at h
  · rename_i a b; cases h; exact S.told_sim a b
  · cases h
def S.rtold_0 (a b : Bool) : Int := (bif a then (0) else (1))
def S.rtold_1 (a b : Bool) : Int := (bif b then (1) else (0))
theorem S.rtold_sim (a b : Bool) : Sim prog 73 [.bool true a, .bool true b] [] (.agg [.int true .i64 (S.rtold_0 a b), .int true .i64 (S.rtold_1 a b)]) [] := by
 refine Sim.rng fun hrng => ?_
 try simp only [rngL, rngV, kLo, kHi] at hrng
 rcases Bool.eq_false_or_eq_true (a) with h0 | h0
 ·
  rcases Bool.eq_false_or_eq_true (b) with h1 | h1
  ·
   exact (sim_run (E := envOf prog {} S.o_told) (envOf_ok hmixed S.o_told_ok) (show run _ 73 [.bool true a, .bool true b] [] [.br true, .br true] = some ((True ∧ a = true) ∧ b = true, .agg [.int false .i64 0, .int false .i64 1], []) by kernel_rfl) ⟨⟨trivial, h0⟩, h1⟩).says (Says.agg (.cons (Says.int (by simp only [S.rtold_0, h1, h0, cond_true, cond_false])) (.cons (Says.int (by simp only [S.rtold_1, h1, h0, cond_true, cond_false])) (.nil))))
  ·
   exact (sim_run (E := envOf prog {} S.o_told) (envOf_ok hmixed S.o_told_ok) (show run _ 73 [.bool true a, .bool true b] [] [.br true, .br false, .br true] = some (((True ∧ a = true) ∧ b = false) ∧ a = true, .agg [.int false .i64 0, .int false .i64 0], []) by kernel_rfl) ⟨⟨⟨trivial, h0⟩, h1⟩, h0⟩).says (Says.agg (.cons (Says.int (by simp only [S.rtold_0, h1, h0, cond_true, cond_false])) (.cons (Says.int (by simp only [S.rtold_1, h1, h0, cond_true, cond_false])) (.nil))))
 ·
  rcases Bool.eq_false_or_eq_true (b) with h1 | h1
  ·
   exact (sim_run (E := envOf prog {} S.o_told) (envOf_ok hmixed S.o_told_ok) (show run _ 73 [.bool true a, .bool true b] [] [.br false, .br false, .br true] = some (((True ∧ a = false) ∧ a = false) ∧ b = true, .agg [.int false .i64 1, .int false .i64 1], []) by kernel_rfl) ⟨⟨⟨trivial, h0⟩, h0⟩, h1⟩).says (Says.agg (.cons (Says.int (by simp only [S.rtold_0, h1, h0, cond_true, cond_false])) (.cons (Says.int (by simp only [S.rtold_1, h1, h0, cond_true, cond_false])) (.nil))))
  ·
   exact (sim_run (E := envOf prog {} S.o_told) (envOf_ok hmixed S.o_told_ok) (show run _ 73 [.bool true a, .bool true b] [] [.br false, .br false, .br false] = some (((True ∧ a = false) ∧ a = false) ∧ b = false, .agg [.int false .i64 1, .int false .i64 0], []) by kernel_rfl) ⟨⟨⟨trivial, h0⟩, h0⟩, h1⟩).says (Says.agg (.cons (Says.int (by simp only [S.rtold_0, h1, h0, cond_true, cond_false])) (.cons (Says.int (by simp only [S.rtold_1, h1, h0, cond_true, cond_false])) (.nil))))
def S.o_rtold : Orc := orcAdd 73 (fun | [.bool true a, .bool true b] => some (.agg [.int true .i64 (S.rtold_0 a b), .int true .i64 (S.rtold_1 a b)]) | _ => none) S.o_told
theorem S.o_rtold_ok : OrcOk prog S.o_rtold := orcAdd_ok S.o_told_ok fun a v h => by
  try dsimp only at h
  split at h
  · rename_i a b; cases h; exact S.rtold_sim a b
  · cases h
def S.Truth_0 (a b : Int) : Int := (bif !S.Empty a b then (S.told_0 (S.Has a b 0) !(a == S.Of_0 0 && (b == S.Of_1 0 && true))) else (S.told_0 (S.Has a b 0) false))
def S.Truth_1 (a b : Int) : Int := (bif !S.Empty a b then (S.told_1 (S.Has a b 0) !(a == S.Of_0 0 && (b == S.Of_1 0 && true))) else (S.told_1 (S.Has a b 0) false))
theorem S.Truth_sim (a b : Int) : Sim prog 31 [.agg [.int true .i64 a, .int true .i64 b]] [] (.agg [.int true .i64 (S.Truth_0 a b), .int true .i64 (S.Truth_1 a b)]) [] := by
 refine Sim.rng fun hrng => ?_
 try simp only [rngL, rngV, kLo, kHi] at hrng
 rcases Bool.eq_false_or_eq_true (!S.Empty a b) with h0 | h0
 ·
  exact (sim_run (E := envOf prog {} S.o_rtold) (envOf_ok hmixed S.o_rtold_ok) (show run _ 31 [.agg [.int true .i64 a, .int true .i64 b]] [] [.br true] = some (True ∧ (!S.Empty a b) = true, .agg [.int true .i64 (S.told_0 (S.Has a b 0) !(a == S.Of_0 0 && (b == S.Of_1 0 && true))), .int true .i64 (S.told_1 (S.Has a b 0) !(a == S.Of_0 0 && (b == S.Of_1 0 && true)))], []) by kernel_rfl) ⟨trivial, h0⟩).says (Says.agg (.cons (Says.int (by simp only [S.Truth_0, h0, cond_true, cond_false])) (.cons (Says.int (by simp only [S.Truth_1, h0, cond_true, cond_false])) (.nil))))
 ·
  exact (sim_run (E := envOf prog {} S.o_rtold) (envOf_ok hmixed S.o_rtold_ok) (show run _ 31 [.agg [.int true .i64 a, .int true .i64 b]] [] [.br false] = some (True ∧ (!S.Empty a b) = false, .agg [.int true .i64 (S.told_0 (S.Has a b 0) false), .int true .i64 (S.told_1 (S.Has a b 0) false)], []) by kernel_rfl) ⟨trivial, h0⟩).says (Says.agg (.cons (Says.int (by simp only [S.Truth_0, h0, cond_true, cond_false])) (.cons (Says.int (by simp only [S.Truth_1, h0, cond_true, cond_false])) (.nil))))
def S.o_Truth : Orc := orcAdd 31 (fun | [.agg [.int true .i64 a, .int true .i64 b]] => some (.agg [.int true .i64 (S.Truth_0 a b), .int true .i64 (S.Truth_1 a b)]) | _ => none) S.o_rtold
theorem S.o_Truth_ok : OrcOk prog S.o_Truth := orcAdd_ok S.o_rtold_ok fun a v h => by
  try dsimp only at h
  split at h
  · rename_i a b; cases h; exact S.Truth_sim a b
  · cases h
def S.rTruth_0 (a b : Int) : Int := (bif S.rEmpty a b then (S.rtold_0 false false) else (bif decide (a < 0) then (S.rtold_0 (S.rHas a b 0) true) else (S.rtold_0 (S.rHas a b 0) (decide (b > 0)))))
def S.rTruth_1 (a b : Int) : Int := (bif S.rEmpty a b then (S.rtold_1 false false) else (bif decide (a < 0) then (S.rtold_1 (S.rHas a b 0) true) else (S.rtold_1 (S.rHas a b 0) (decide (b > 0)))))
theorem S.rTruth_sim (a b : Int) : Sim prog 32 [.agg [.int true .i64 a, .int true .i64 b]] [] (.agg [.int true .i64 (S.rTruth_0 a b), .int true .i64 (S.rTruth_1 a b)]) [] := by
 refine Sim.rng fun hrng => ?_
 try simp only [rngL, rngV, kLo, kHi] at hrng
 rcases Bool.eq_false_or_eq_true (S.rEmpty a b) with h0 | h0
 ·
  exact (sim_run (E := envOf prog {} S.o_Truth) (envOf_ok hmixed S.o_Truth_ok) (show run _ 32 [.agg [.int true .i64 a, .int true .i64 b]] [] [.br true] = some (True ∧ S.rEmpty a b = true, .agg [.int true .i64 (S.rtold_0 false false), .int true .i64 (S.rtold_1 false false)], []) by kernel_rfl) ⟨trivial, h0⟩).says (Says.agg (.cons (Says.int (by simp only [S.rTruth_0, h0, cond_true, cond_false])) (.cons (Says.int (by simp only [S.rTruth_1, h0, cond_true, cond_false])) (.nil))))
 ·
  rcases Bool.eq_false_or_eq_true (decide (a < 0)) with h1 | h1
  ·
   exact (sim_run (E := envOf prog {} S.o_Truth) (envOf_ok hmixed S.o_Truth_ok) (show run _ 32 [.agg [.int true .i64 a, .int true .i64 b]] [] [.br false, .br true] = some ((True ∧ S.rEmpty a b = false) ∧ decide (a < 0) = true, .agg [.int true .i64 (S.rtold_0 (S.rHas a b 0) true), .int true .i64 (S.rtold_1 (S.rHas a b 0) true)], []) by kernel_rfl) ⟨⟨trivial, h0⟩, h1⟩).says (Says.agg (.cons (Says.int (by simp only [S.rTruth_0, h1, h0, cond_true, cond_false])) (.cons (Says.int (by simp only [S.rTruth_1, h1, h0, cond_true, cond_false])) (.nil))))
  ·
   exact (sim_run (E := envOf prog {} S.o_Truth) (envOf_ok hmixed S.o_Truth_ok) (show run _ 32 [.agg [.int true .i64 a, .int true .i64 b]] [] [.br false, .br false] = some ((True ∧ S.rEmpty a b = false) ∧ decide (a < 0) = false, .agg [.int true .i64 (S.rtold_0 (S.rHas a b 0) (decide (b > 0))), .int true .i64 (S.rtold_1 (S.rHas a b 0) (decide (b > 0)))], []) by kernel_rfl) ⟨⟨trivial, h0⟩, h1⟩).says (Says.agg (.cons (Says.int (by simp only [S.rTruth_0, h1, h0, cond_true, cond_false])) (.cons (Says.int (by simp only [S.rTruth_1, h1, h0, cond_true, cond_false])) (.nil))))
def S.o_rTruth : Orc := orcAdd 32 (fun | [.agg [.int true .i64 a, .int true .i64 b]] => some (.agg [.int true .i64 (S.rTruth_0 a b), .int true .i64 (S.rTruth_1 a b)]) | _ => none) S.o_Truth
theorem S.o_rTruth_ok : OrcOk prog S.o_rTruth := orcAdd_ok S.o_Truth_ok fun a v h => by
  try dsimp only at h
  split at h
  · rename_i a b; cases h; exact S.rTruth_sim a b
  · cases h
def S.ref_0 (a b : Int) : Int := (a)
def S.ref_1 (a b : Int) : Int := (b)
theorem S.ref_sim (a b : Int) : Sim prog 13 [.agg [.int true .i64 a, .int true .i64 b]] [] (.agg [.int true .i64 (S.ref_0 a b), .int true .i64 (S.ref_1 a b)]) [] := by
 refine Sim.rng fun hrng => ?_
 try simp only [rngL, rngV, kLo, kHi] at hrng
 exact (sim_run (E := envOf prog {} S.o_rTruth) (envOf_ok hmixed S.o_rTruth_ok) (show run _ 13 [.agg [.int true .i64 a, .int true .i64 b]] [] [] = some (True, .agg [.int true .i64 a, .int true .i64 b], []) by kernel_rfl) trivial).says (Says.agg (.cons (Says.int (rfl)) (.cons (Says.int (rfl)) (.nil))))
def S.o_ref : Orc := orcAdd 13 (fun | [.agg [.int true .i64 a, .int true .i64 b]] => some (.agg [.int true .i64 (S.ref_0 a b), .int true .i64 (S.ref_1 a b)]) | _ => none) S.o_rTruth
theorem S.o_ref_ok : OrcOk prog S.o_ref := orcAdd_ok S.o_rTruth_ok fun a v h => by
  try dsimp only at h
  split at h
  · rename_i a b; cases h; exact S.ref_sim a b
  · cases h
def S.rangespan_0 (a b : Int) (c : Bool) (d e : Int) : Int := (bif !c then (a) else (bif Int.tmod d 9 == 0 then (-9223372036854775808) else (bif Int.tmod d 9 == 1 then (IntKind.wrap .i64 (9223372036854775807 - IntKind.wrap .i64 (Int.tmod e 4))) else (bif Int.tmod d 9 == 2 then (0) else (IntKind.wrap .i64 (IntKind.wrap .i64 d - 128))))))
def S.rangespan_1 (a b : Int) (c : Bool) (d e : Int) : Int := (bif !c then (b) else (bif Int.tmod d 9 == 0 then (IntKind.wrap .i64 (-9223372036854775808 + IntKind.wrap .i64 (Int.tmod e 40))) else (bif Int.tmod d 9 == 1 then (9223372036854775807) else (bif Int.tmod d 9 == 2 then (IntKind.wrap .i64 (0 + IntKind.wrap .i64 (Int.tmod e 40))) else (IntKind.wrap .i64 (IntKind.wrap .i64 (IntKind.wrap .i64 d - 128) + IntKind.wrap .i64 (Int.tmod e 40)))))))
theorem S.rangespan_sim (a b : Int) (c : Bool) (d e : Int) : Sim prog 11 [.agg [.int true .i64 a, .int true .i64 b, .bool true c, .int true .u8 d, .int true .u8 e]] [] (.agg [.int true .i64 (S.rangespan_0 a b c d e), .int true .i64 (S.rangespan_1 a b c d e)]) [] := by
 refine Sim.rng fun hrng => ?_
 try simp only [rngL, rngV, kLo, kHi] at hrng
 rcases Bool.eq_false_or_eq_true (!c) with h0 | h0
 ·
  exact (sim_run (E := envOf prog {} S.o_ref) (envOf_ok hmixed S.o_ref_ok) (show run _ 11 [.agg [.int true .i64 a, .int true .i64 b, .bool true c, .int true .u8 d, .int true .u8 e]] [] [.br true] = some (True ∧ (!c) = true, .agg [.int true .i64 a, .int true .i64 b], []) by kernel_rfl) ⟨trivial, h0⟩).says (Says.agg (.cons (Says.int (by simp only [S.rangespan_0, h0, cond_true, cond_false])) (.cons (Says.int (by simp only [S.rangespan_1, h0, cond_true, cond_false])) (.nil))))
 ·
  rcases Bool.eq_false_or_eq_true (Int.tmod d 9 == 0) with h1 | h1
  ·
   exact (sim_run (E := envOf prog {} S.o_ref) (envOf_ok hmixed S.o_ref_ok) (show run _ 11 [.agg [.int true .i64 a, .int true .i64 b, .bool true c, .int true .u8 d, .int true .u8 e]] [] [.br false, .br true] = some ((True ∧ (!c) = false) ∧ (Int.tmod d 9 == 0) = true, .agg [.int false .i64 (-9223372036854775808), .int true .i64 (IntKind.wrap .i64 (-9223372036854775808 + IntKind.wrap .i64 (Int.tmod e 40)))], []) by kernel_rfl) ⟨⟨trivial, h0⟩, h1⟩).says (Says.agg (.cons (Says.int (by simp only [S.rangespan_0, h1, h0, cond_true, cond_false])) (.cons (Says.int (by simp only [S.rangespan_1, h1, h0, cond_true, cond_false])) (.nil))))
  ·
   rcases Bool.eq_false_or_eq_true (Int.tmod d 9 == 1) with h2 | h2
   ·
    exact (sim_run (E := envOf prog {} S.o_ref) (envOf_ok hmixed S.o_ref_ok) (show run _ 11 [.agg [.int true .i64 a, .int true .i64 b, .bool true c, .int true .u8 d, .int true .u8 e]] [] [.br false, .br false, .br true] = some (((True ∧ (!c) = false) ∧ (Int.tmod d 9 == 0) = false) ∧ (Int.tmod d 9 == 1) = true, .agg [.int true .i64 (IntKind.wrap .i64 (9223372036854775807 - IntKind.wrap .i64 (Int.tmod e 4))), .int false .i64 9223372036854775807], []) by kernel_rfl) ⟨⟨⟨trivial, h0⟩, h1⟩, h2⟩).says (Says.agg (.cons (Says.int (by simp only [S.rangespan_0, h2, h1, h0, cond_true, cond_false])) (.cons (Says.int (by simp only [S.rangespan_1, h2, h1, h0, cond_true, cond_false])) (.nil))))
   ·
    rcases Bool.eq_false_or_eq_true (Int.tmod d 9 == 2) with h3 | h3
    ·
     exact (sim_run (E := envOf prog {} S.o_ref) (envOf_ok hmixed S.o_ref_ok) (show run _ 11 [.agg [.int true .i64 a, .int true .i64 b, .bool true c, .int true .u8 d, .int true .u8 e]] [] [.br false, .br false, .br false, .br true] = some ((((True ∧ (!c) = false) ∧ (Int.tmod d 9 == 0) = false) ∧ (Int.tmod d 9 == 1) = false) ∧ (Int.tmod d 9 == 2) = true, .agg [.int false .i64 0, .int true .i64 (IntKind.wrap .i64 (0 + IntKind.wrap .i64 (Int.tmod e 40)))], []) by kernel_rfl) ⟨⟨⟨⟨trivial, h0⟩, h1⟩, h2⟩, h3⟩).says (Says.agg (.cons (Says.int (by simp only [S.rangespan_0, h3, h2, h1, h0, cond_true, cond_false])) (.cons (Says.int (by simp only [S.rangespan_1, h3, h2, h1, h0, cond_true, cond_false])) (.nil))))
    ·
     exact (sim_run (E := envOf prog {} S.o_ref) (envOf_ok hmixed S.o_ref_ok) (show run _ 11 [.agg [.int true .i64 a, .int true .i64 b, .bool true c, .int true .u8 d, .int true .u8 e]] [] [.br false, .br false, .br false, .br false] = some ((((True ∧ (!c) = false) ∧ (Int.tmod d 9 == 0) = false) ∧ (Int.tmod d 9 == 1) = false) ∧ (Int.tmod d 9 == 2) = false, .agg [.int true .i64 (IntKind.wrap .i64 (IntKind.wrap .i64 d - 128)), .int true .i64 (IntKind.wrap .i64 (IntKind.wrap .i64 (IntKind.wrap .i64 d - 128) + IntKind.wrap .i64 (Int.tmod e 40)))], []) by kernel_rfl) ⟨⟨⟨⟨trivial, h0⟩, h1⟩, h2⟩, h3⟩).says (Says.agg (.cons (Says.int (by simp only [S.rangespan_0, h3, h2, h1, h0, cond_true, cond_false])) (.cons (Says.int (by simp only [S.rangespan_1, h3, h2, h1, h0, cond_true, cond_false])) (.nil))))
def S.o_rangespan : Orc := orcAdd 11 (fun | [.agg [.int true .i64 a, .int true .i64 b, .bool true c, .int true .u8 d, .int true .u8 e]] => some (.agg [.int true .i64 (S.rangespan_0 a b c d e), .int true .i64 (S.rangespan_1 a b c d e)]) | _ => none) S.o_ref
theorem S.o_rangespan_ok : OrcOk prog S.o_rangespan := orcAdd_ok S.o_ref_ok fun a v h => by
  try dsimp only at h
  split at h
  · rename_i a b c d e; cases h; exact S.rangespan_sim a b c d e
  · cases h
def S.pick (a b c : Int) : Int := (bif IntKind.wrap .u64 (IntKind.wrap .u64 (IntKind.wrap .u64 b - IntKind.wrap .u64 a) + 1) == 0 then (IntKind.wrap .i64 c) else (IntKind.wrap .i64 (IntKind.wrap .u64 (IntKind.wrap .u64 a + Int.tmod c (IntKind.wrap .u64 (IntKind.wrap .u64 (IntKind.wrap .u64 b - IntKind.wrap .u64 a) + 1))))))
theorem S.pick_sim (a b c : Int) : Sim prog 37 [.agg [.int true .i64 a, .int true .i64 b], .int true .u64 c] [] (.int true .i64 (S.pick a b c)) [] := by
 refine Sim.rng fun hrng => ?_
 try simp only [rngL, rngV, kLo, kHi] at hrng
 rcases Bool.eq_false_or_eq_true (IntKind.wrap .u64 (IntKind.wrap .u64 (IntKind.wrap .u64 b - IntKind.wrap .u64 a) + 1) == 0) with h0 | h0
 ·
  exact (sim_run (E := envOf prog {} S.o_rangespan) (envOf_ok hmixed S.o_rangespan_ok) (show run _ 37 [.agg [.int true .i64 a, .int true .i64 b], .int true .u64 c] [] [.br true] = some (True ∧ (IntKind.wrap .u64 (IntKind.wrap .u64 (IntKind.wrap .u64 b - IntKind.wrap .u64 a) + 1) == 0) = true, .int true .i64 (IntKind.wrap .i64 c), []) by kernel_rfl) ⟨trivial, h0⟩).says (Says.int (by simp only [S.pick, h0, cond_true, cond_false]))
 ·
  rcases Bool.eq_false_or_eq_true (IntKind.wrap .u64 (IntKind.wrap .u64 (IntKind.wrap .u64 b - IntKind.wrap .u64 a) + 1) != 0) with h1 | h1
  ·
   exact (sim_run (E := envOf prog {} S.o_rangespan) (envOf_ok hmixed S.o_rangespan_ok) (show run _ 37 [.agg [.int true .i64 a, .int true .i64 b], .int true .u64 c] [] [.br false, .br true] = some ((True ∧ (IntKind.wrap .u64 (IntKind.wrap .u64 (IntKind.wrap .u64 b - IntKind.wrap .u64 a) + 1) == 0) = false) ∧ (IntKind.wrap .u64 (IntKind.wrap .u64 (IntKind.wrap .u64 b - IntKind.wrap .u64 a) + 1) != 0) = true, .int true .i64 (IntKind.wrap .i64 (IntKind.wrap .u64 (IntKind.wrap .u64 a + Int.tmod c (IntKind.wrap .u64 (IntKind.wrap .u64 (IntKind.wrap .u64 b - IntKind.wrap .u64 a) + 1))))), []) by kernel_rfl) ⟨⟨trivial, h0⟩, h1⟩).says (Says.int (by simp only [S.pick, h1, h0, cond_true, cond_false]))
  ·
   exfalso; simp only [bne, h0, Bool.not_false, Bool.not_true] at h1 <;> first | done | cases h1
def S.o_pick : Orc := orcAdd 37 (fun | [.agg [.int true .i64 a, .int true .i64 b], .int true .u64 c] => some (.int true .i64 (S.pick a b c)) | _ => none) S.o_rangespan
theorem S.o_pick_ok : OrcOk prog S.o_pick := orcAdd_ok S.o_rangespan_ok fun a v h => by
  try dsimp only at h
  split at h
  · rename_i a b c; cases h; exact S.pick_sim a b c
  · cases h
