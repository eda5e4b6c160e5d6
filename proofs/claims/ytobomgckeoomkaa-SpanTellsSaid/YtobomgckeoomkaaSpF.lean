import Derived.Test.YtobomgckeoomkaaSpD
set_option linter.unusedVariables false
set_option linter.unusedSimpArgs false
set_option maxRecDepth 100000
open Go Go.Im Go.Proofs.Try
def S.size (a : Int) : Int := (bif decide (a < 0) then (IntKind.wrap .u64 (0 - IntKind.wrap .u64 a)) else (IntKind.wrap .u64 a))
theorem S.size_sim (a : Int) : Sim prog 77 [.int true .i64 a] [] (.int true .u64 (S.size a)) [] := by
 refine Sim.rng fun hrng => ?_
 try simp only [rngL, rngV, kLo, kHi] at hrng
 rcases Bool.eq_false_or_eq_true (decide (a < 0)) with h0 | h0
 ·
  exact (sim_run (S.hE S.o_wbang_ok) (show run _ 77 [.int true .i64 a] [] [.br true] = some (True ∧ decide (a < 0) = true, .int true .u64 (IntKind.wrap .u64 (0 - IntKind.wrap .u64 a)), []) by kernel_rfl) ⟨trivial, h0⟩).says (Says.int (by simp only [S.size, h0, cond_true, cond_false]))
 ·
  exact (sim_run (S.hE S.o_wbang_ok) (show run _ 77 [.int true .i64 a] [] [.br false] = some (True ∧ decide (a < 0) = false, .int true .u64 (IntKind.wrap .u64 a), []) by kernel_rfl) ⟨trivial, h0⟩).says (Says.int (by simp only [S.size, h0, cond_true, cond_false]))
def S.o_size : Orc := orcAdd 77 (fun | [.int true .i64 a] => some (.int true .u64 (S.size a)) | _ => none) S.o_wbang
theorem S.o_size_ok : OrcOk prog S.o_size := orcAdd_ok S.o_wbang_ok fun a v h => by
  try dsimp only at h
  split at h
  · rename_i a; cases h; exact S.size_sim a
  · cases h
def S.Mul64_0 (a b : Int) : Int := (IntKind.wrap .u64 (IntKind.wrap .u64 (IntKind.wrap .u64 (Int.fdiv a (2 ^ min (Int.toNat 32) (IntKind.bits .u64)) * Int.fdiv b (2 ^ min (Int.toNat 32) (IntKind.bits .u64))) + Int.fdiv (IntKind.wrap .u64 (IntKind.wrap .u64 (Int.fdiv a (2 ^ min (Int.toNat 32) (IntKind.bits .u64)) * IntKind.wrap .u64 ↑(BitVec.toNat (BitVec.ofInt (IntKind.bits .u64) b &&& BitVec.ofInt (IntKind.bits .u64) 4294967295))) + Int.fdiv (IntKind.wrap .u64 (IntKind.wrap .u64 ↑(BitVec.toNat (BitVec.ofInt (IntKind.bits .u64) a &&& BitVec.ofInt (IntKind.bits .u64) 4294967295)) * IntKind.wrap .u64 ↑(BitVec.toNat (BitVec.ofInt (IntKind.bits .u64) b &&& BitVec.ofInt (IntKind.bits .u64) 4294967295)))) (2 ^ min (Int.toNat 32) (IntKind.bits .u64)))) (2 ^ min (Int.toNat 32) (IntKind.bits .u64))) + Int.fdiv (IntKind.wrap .u64 (IntKind.wrap .u64 ↑(BitVec.toNat (BitVec.ofInt (IntKind.bits .u64) (IntKind.wrap .u64 (IntKind.wrap .u64 (Int.fdiv a (2 ^ min (Int.toNat 32) (IntKind.bits .u64)) * IntKind.wrap .u64 ↑(BitVec.toNat (BitVec.ofInt (IntKind.bits .u64) b &&& BitVec.ofInt (IntKind.bits .u64) 4294967295))) + Int.fdiv (IntKind.wrap .u64 (IntKind.wrap .u64 ↑(BitVec.toNat (BitVec.ofInt (IntKind.bits .u64) a &&& BitVec.ofInt (IntKind.bits .u64) 4294967295)) * IntKind.wrap .u64 ↑(BitVec.toNat (BitVec.ofInt (IntKind.bits .u64) b &&& BitVec.ofInt (IntKind.bits .u64) 4294967295)))) (2 ^ min (Int.toNat 32) (IntKind.bits .u64)))) &&& BitVec.ofInt (IntKind.bits .u64) 4294967295)) + IntKind.wrap .u64 (IntKind.wrap .u64 ↑(BitVec.toNat (BitVec.ofInt (IntKind.bits .u64) a &&& BitVec.ofInt (IntKind.bits .u64) 4294967295)) * Int.fdiv b (2 ^ min (Int.toNat 32) (IntKind.bits .u64))))) (2 ^ min (Int.toNat 32) (IntKind.bits .u64))))
def S.Mul64_1 (a b : Int) : Int := (IntKind.wrap .u64 (a * b))
theorem S.Mul64_sim (a b : Int) : Sim prog 76 [.int true .u64 a, .int true .u64 b] [] (.tup [.int true .u64 (S.Mul64_0 a b), .int true .u64 (S.Mul64_1 a b)]) [] := by
 refine Sim.rng fun hrng => ?_
 try simp only [rngL, rngV, kLo, kHi] at hrng
 exact (sim_run (S.hE S.o_size_ok) (show run _ 76 [.int true .u64 a, .int true .u64 b] [] [] = some (True, .tup [.int true .u64 (IntKind.wrap .u64 (IntKind.wrap .u64 (IntKind.wrap .u64 (Int.fdiv a (2 ^ min (Int.toNat 32) (IntKind.bits .u64)) * Int.fdiv b (2 ^ min (Int.toNat 32) (IntKind.bits .u64))) + Int.fdiv (IntKind.wrap .u64 (IntKind.wrap .u64 (Int.fdiv a (2 ^ min (Int.toNat 32) (IntKind.bits .u64)) * IntKind.wrap .u64 ↑(BitVec.toNat (BitVec.ofInt (IntKind.bits .u64) b &&& BitVec.ofInt (IntKind.bits .u64) 4294967295))) + Int.fdiv (IntKind.wrap .u64 (IntKind.wrap .u64 ↑(BitVec.toNat (BitVec.ofInt (IntKind.bits .u64) a &&& BitVec.ofInt (IntKind.bits .u64) 4294967295)) * IntKind.wrap .u64 ↑(BitVec.toNat (BitVec.ofInt (IntKind.bits .u64) b &&& BitVec.ofInt (IntKind.bits .u64) 4294967295)))) (2 ^ min (Int.toNat 32) (IntKind.bits .u64)))) (2 ^ min (Int.toNat 32) (IntKind.bits .u64))) + Int.fdiv (IntKind.wrap .u64 (IntKind.wrap .u64 ↑(BitVec.toNat (BitVec.ofInt (IntKind.bits .u64) (IntKind.wrap .u64 (IntKind.wrap .u64 (Int.fdiv a (2 ^ min (Int.toNat 32) (IntKind.bits .u64)) * IntKind.wrap .u64 ↑(BitVec.toNat (BitVec.ofInt (IntKind.bits .u64) b &&& BitVec.ofInt (IntKind.bits .u64) 4294967295))) + Int.fdiv (IntKind.wrap .u64 (IntKind.wrap .u64 ↑(BitVec.toNat (BitVec.ofInt (IntKind.bits .u64) a &&& BitVec.ofInt (IntKind.bits .u64) 4294967295)) * IntKind.wrap .u64 ↑(BitVec.toNat (BitVec.ofInt (IntKind.bits .u64) b &&& BitVec.ofInt (IntKind.bits .u64) 4294967295)))) (2 ^ min (Int.toNat 32) (IntKind.bits .u64)))) &&& BitVec.ofInt (IntKind.bits .u64) 4294967295)) + IntKind.wrap .u64 (IntKind.wrap .u64 ↑(BitVec.toNat (BitVec.ofInt (IntKind.bits .u64) a &&& BitVec.ofInt (IntKind.bits .u64) 4294967295)) * Int.fdiv b (2 ^ min (Int.toNat 32) (IntKind.bits .u64))))) (2 ^ min (Int.toNat 32) (IntKind.bits .u64)))), .int true .u64 (IntKind.wrap .u64 (a * b))], []) by kernel_rfl) trivial).says (Says.tup (.cons (Says.int (rfl)) (.cons (Says.int (rfl)) (.nil))))
def S.o_Mul64 : Orc := orcAdd 76 (fun | [.int true .u64 a, .int true .u64 b] => some (.tup [.int true .u64 (S.Mul64_0 a b), .int true .u64 (S.Mul64_1 a b)]) | _ => none) S.o_size
theorem S.o_Mul64_ok : OrcOk prog S.o_Mul64 := orcAdd_ok S.o_size_ok fun a v h => by
  try dsimp only at h
  split at h
  · rename_i a b; cases h; exact S.Mul64_sim a b
  · cases h
def S.nadd_0 (a b : Int) : Int := (IntKind.wrap .i64 (a + b))
def S.nadd_1 (a b : Int) : Bool := (decide (IntKind.wrap .i64 (a + b) < a) == decide (b < 0))
theorem S.nadd_sim (a b : Int) : Sim prog 47 [.int true .i64 a, .int true .i64 b] [] (.tup [.int true .i64 (S.nadd_0 a b), .bool true (S.nadd_1 a b)]) [] := by
 refine Sim.rng fun hrng => ?_
 try simp only [rngL, rngV, kLo, kHi] at hrng
 exact (sim_run (S.hE S.o_Mul64_ok) (show run _ 47 [.int true .i64 a, .int true .i64 b] [] [] = some (True, .tup [.int true .i64 (IntKind.wrap .i64 (a + b)), .bool true (decide (IntKind.wrap .i64 (a + b) < a) == decide (b < 0))], []) by kernel_rfl) trivial).says (Says.tup (.cons (Says.int (rfl)) (.cons (Says.bool (rfl)) (.nil))))
def S.o_nadd : Orc := orcAdd 47 (fun | [.int true .i64 a, .int true .i64 b] => some (.tup [.int true .i64 (S.nadd_0 a b), .bool true (S.nadd_1 a b)]) | _ => none) S.o_Mul64
theorem S.o_nadd_ok : OrcOk prog S.o_nadd := orcAdd_ok S.o_Mul64_ok fun a v h => by
  try dsimp only at h
  split at h
  · rename_i a b; cases h; exact S.nadd_sim a b
  · cases h
def S.nsub_0 (a b : Int) : Int := (IntKind.wrap .i64 (a - b))
def S.nsub_1 (a b : Int) : Bool := (decide (IntKind.wrap .i64 (a - b) > a) == decide (b < 0))
theorem S.nsub_sim (a b : Int) : Sim prog 48 [.int true .i64 a, .int true .i64 b] [] (.tup [.int true .i64 (S.nsub_0 a b), .bool true (S.nsub_1 a b)]) [] := by
 refine Sim.rng fun hrng => ?_
 try simp only [rngL, rngV, kLo, kHi] at hrng
 exact (sim_run (S.hE S.o_nadd_ok) (show run _ 48 [.int true .i64 a, .int true .i64 b] [] [] = some (True, .tup [.int true .i64 (IntKind.wrap .i64 (a - b)), .bool true (decide (IntKind.wrap .i64 (a - b) > a) == decide (b < 0))], []) by kernel_rfl) trivial).says (Says.tup (.cons (Says.int (rfl)) (.cons (Says.bool (rfl)) (.nil))))
def S.o_nsub : Orc := orcAdd 48 (fun | [.int true .i64 a, .int true .i64 b] => some (.tup [.int true .i64 (S.nsub_0 a b), .bool true (S.nsub_1 a b)]) | _ => none) S.o_nadd
theorem S.o_nsub_ok : OrcOk prog S.o_nsub := orcAdd_ok S.o_nadd_ok fun a v h => by
  try dsimp only at h
  split at h
  · rename_i a b; cases h; exact S.nsub_sim a b
  · cases h
def S.nmul_0 (a b : Int) : Int := (IntKind.wrap .i64 (a * b))
def S.nmul_1 (a b : Int) : Bool := (bif !decide (a < 0) == decide (b < 0) then (bif S.Mul64_0 (S.size a) (S.size b) == 0 then (decide (S.Mul64_1 (S.size a) (S.size b) ≤ 9223372036854775808)) else (false)) else (bif S.Mul64_0 (S.size a) (S.size b) == 0 then (decide (S.Mul64_1 (S.size a) (S.size b) < 9223372036854775808)) else (false)))
theorem S.nmul_sim (a b : Int) : Sim prog 49 [.int true .i64 a, .int true .i64 b] [] (.tup [.int true .i64 (S.nmul_0 a b), .bool true (S.nmul_1 a b)]) [] := by
 refine Sim.rng fun hrng => ?_
 try simp only [rngL, rngV, kLo, kHi] at hrng
 rcases Bool.eq_false_or_eq_true (!decide (a < 0) == decide (b < 0)) with h0 | h0
 ·
  rcases Bool.eq_false_or_eq_true (S.Mul64_0 (S.size a) (S.size b) == 0) with h1 | h1
  ·
   exact (sim_run (S.hE S.o_nsub_ok) (show run _ 49 [.int true .i64 a, .int true .i64 b] [] [.br true, .br true] = some ((True ∧ (!decide (a < 0) == decide (b < 0)) = true) ∧ (S.Mul64_0 (S.size a) (S.size b) == 0) = true, .tup [.int true .i64 (IntKind.wrap .i64 (a * b)), .bool true (decide (S.Mul64_1 (S.size a) (S.size b) ≤ 9223372036854775808))], []) by kernel_rfl) ⟨⟨trivial, h0⟩, h1⟩).says (Says.tup (.cons (Says.int (by simp only [S.nmul_0, h1, h0, cond_true, cond_false])) (.cons (Says.bool (by simp only [S.nmul_1, h1, h0, cond_true, cond_false])) (.nil))))
  ·
   exact (sim_run (S.hE S.o_nsub_ok) (show run _ 49 [.int true .i64 a, .int true .i64 b] [] [.br true, .br false] = some ((True ∧ (!decide (a < 0) == decide (b < 0)) = true) ∧ (S.Mul64_0 (S.size a) (S.size b) == 0) = false, .tup [.int true .i64 (IntKind.wrap .i64 (a * b)), .bool false false], []) by kernel_rfl) ⟨⟨trivial, h0⟩, h1⟩).says (Says.tup (.cons (Says.int (by simp only [S.nmul_0, h1, h0, cond_true, cond_false])) (.cons (Says.bool (by simp only [S.nmul_1, h1, h0, cond_true, cond_false])) (.nil))))
 ·
  rcases Bool.eq_false_or_eq_true (S.Mul64_0 (S.size a) (S.size b) == 0) with h1 | h1
  ·
   exact (sim_run (S.hE S.o_nsub_ok) (show run _ 49 [.int true .i64 a, .int true .i64 b] [] [.br false, .br true] = some ((True ∧ (!decide (a < 0) == decide (b < 0)) = false) ∧ (S.Mul64_0 (S.size a) (S.size b) == 0) = true, .tup [.int true .i64 (IntKind.wrap .i64 (a * b)), .bool true (decide (S.Mul64_1 (S.size a) (S.size b) < 9223372036854775808))], []) by kernel_rfl) ⟨⟨trivial, h0⟩, h1⟩).says (Says.tup (.cons (Says.int (by simp only [S.nmul_0, h1, h0, cond_true, cond_false])) (.cons (Says.bool (by simp only [S.nmul_1, h1, h0, cond_true, cond_false])) (.nil))))
  ·
   exact (sim_run (S.hE S.o_nsub_ok) (show run _ 49 [.int true .i64 a, .int true .i64 b] [] [.br false, .br false] = some ((True ∧ (!decide (a < 0) == decide (b < 0)) = false) ∧ (S.Mul64_0 (S.size a) (S.size b) == 0) = false, .tup [.int true .i64 (IntKind.wrap .i64 (a * b)), .bool false false], []) by kernel_rfl) ⟨⟨trivial, h0⟩, h1⟩).says (Says.tup (.cons (Says.int (by simp only [S.nmul_0, h1, h0, cond_true, cond_false])) (.cons (Says.bool (by simp only [S.nmul_1, h1, h0, cond_true, cond_false])) (.nil))))
def S.o_nmul : Orc := orcAdd 49 (fun | [.int true .i64 a, .int true .i64 b] => some (.tup [.int true .i64 (S.nmul_0 a b), .bool true (S.nmul_1 a b)]) | _ => none) S.o_nsub
theorem S.o_nmul_ok : OrcOk prog S.o_nmul := orcAdd_ok S.o_nsub_ok fun a v h => by
  try dsimp only at h
  split at h
  · rename_i a b; cases h; exact S.nmul_sim a b
  · cases h
def S.nright_0 (a b : Int) : Int := (Int.fdiv a (2 ^ min (Int.toNat (IntKind.wrap .u64 b)) (IntKind.bits .i64)))
def S.nright_1 (a b : Int) : Bool := (true)
theorem S.nright_sim (a b : Int) : Sim prog 80 [.int true .i64 a, .int true .i64 b] [] (.tup [.int true .i64 (S.nright_0 a b), .bool true (S.nright_1 a b)]) [] := by
 refine Sim.rng fun hrng => ?_
 try simp only [rngL, rngV, kLo, kHi] at hrng
 rcases Bool.eq_false_or_eq_true (decide (0 ≤ IntKind.wrap .u64 b)) with h0 | h0
 ·
  exact (sim_run (S.hE S.o_nmul_ok) (show run _ 80 [.int true .i64 a, .int true .i64 b] [] [.br true] = some (True ∧ decide (0 ≤ IntKind.wrap .u64 b) = true, .tup [.int true .i64 (Int.fdiv a (2 ^ min (Int.toNat (IntKind.wrap .u64 b)) (IntKind.bits .i64))), .bool false true], []) by kernel_rfl) ⟨trivial, h0⟩).says (Says.tup (.cons (Says.int (by simp only [S.nright_0, h0, cond_true, cond_false])) (.cons (Says.bool (by simp only [S.nright_1, h0, cond_true, cond_false])) (.nil))))
 ·
  exfalso; first | (rw [S.u64_nonneg] at h0; cases h0) | (simp only [bne, Bool.not_false, Bool.not_true] at h0 <;> first | done | cases h0)
def S.o_nright : Orc := orcAdd 80 (fun | [.int true .i64 a, .int true .i64 b] => some (.tup [.int true .i64 (S.nright_0 a b), .bool true (S.nright_1 a b)]) | _ => none) S.o_nmul
theorem S.o_nright_ok : OrcOk prog S.o_nright := orcAdd_ok S.o_nmul_ok fun a v h => by
  try dsimp only at h
  split at h
  · rename_i a b; cases h; exact S.nright_sim a b
  · cases h
def S.eadd_0 (a b c d : Int) : Int := (bif !S.nadd_1 a c then (-9223372036854775808) else (bif !S.nadd_1 a d then (-9223372036854775808) else (bif !S.nadd_1 b c then (-9223372036854775808) else (bif !S.nadd_1 b d then (-9223372036854775808) else (S.Join_0 (S.Join_0 (S.Join_0 (S.Join_0 1 0 (S.Of_0 (S.nadd_0 a c)) (S.Of_1 (S.nadd_0 a c))) (S.Join_1 1 0 (S.Of_0 (S.nadd_0 a c)) (S.Of_1 (S.nadd_0 a c))) (S.Of_0 (S.nadd_0 a d)) (S.Of_1 (S.nadd_0 a d))) (S.Join_1 (S.Join_0 1 0 (S.Of_0 (S.nadd_0 a c)) (S.Of_1 (S.nadd_0 a c))) (S.Join_1 1 0 (S.Of_0 (S.nadd_0 a c)) (S.Of_1 (S.nadd_0 a c))) (S.Of_0 (S.nadd_0 a d)) (S.Of_1 (S.nadd_0 a d))) (S.Of_0 (S.nadd_0 b c)) (S.Of_1 (S.nadd_0 b c))) (S.Join_1 (S.Join_0 (S.Join_0 1 0 (S.Of_0 (S.nadd_0 a c)) (S.Of_1 (S.nadd_0 a c))) (S.Join_1 1 0 (S.Of_0 (S.nadd_0 a c)) (S.Of_1 (S.nadd_0 a c))) (S.Of_0 (S.nadd_0 a d)) (S.Of_1 (S.nadd_0 a d))) (S.Join_1 (S.Join_0 1 0 (S.Of_0 (S.nadd_0 a c)) (S.Of_1 (S.nadd_0 a c))) (S.Join_1 1 0 (S.Of_0 (S.nadd_0 a c)) (S.Of_1 (S.nadd_0 a c))) (S.Of_0 (S.nadd_0 a d)) (S.Of_1 (S.nadd_0 a d))) (S.Of_0 (S.nadd_0 b c)) (S.Of_1 (S.nadd_0 b c))) (S.Of_0 (S.nadd_0 b d)) (S.Of_1 (S.nadd_0 b d)))))))
def S.eadd_1 (a b c d : Int) : Int := (bif !S.nadd_1 a c then (9223372036854775807) else (bif !S.nadd_1 a d then (9223372036854775807) else (bif !S.nadd_1 b c then (9223372036854775807) else (bif !S.nadd_1 b d then (9223372036854775807) else (S.Join_1 (S.Join_0 (S.Join_0 (S.Join_0 1 0 (S.Of_0 (S.nadd_0 a c)) (S.Of_1 (S.nadd_0 a c))) (S.Join_1 1 0 (S.Of_0 (S.nadd_0 a c)) (S.Of_1 (S.nadd_0 a c))) (S.Of_0 (S.nadd_0 a d)) (S.Of_1 (S.nadd_0 a d))) (S.Join_1 (S.Join_0 1 0 (S.Of_0 (S.nadd_0 a c)) (S.Of_1 (S.nadd_0 a c))) (S.Join_1 1 0 (S.Of_0 (S.nadd_0 a c)) (S.Of_1 (S.nadd_0 a c))) (S.Of_0 (S.nadd_0 a d)) (S.Of_1 (S.nadd_0 a d))) (S.Of_0 (S.nadd_0 b c)) (S.Of_1 (S.nadd_0 b c))) (S.Join_1 (S.Join_0 (S.Join_0 1 0 (S.Of_0 (S.nadd_0 a c)) (S.Of_1 (S.nadd_0 a c))) (S.Join_1 1 0 (S.Of_0 (S.nadd_0 a c)) (S.Of_1 (S.nadd_0 a c))) (S.Of_0 (S.nadd_0 a d)) (S.Of_1 (S.nadd_0 a d))) (S.Join_1 (S.Join_0 1 0 (S.Of_0 (S.nadd_0 a c)) (S.Of_1 (S.nadd_0 a c))) (S.Join_1 1 0 (S.Of_0 (S.nadd_0 a c)) (S.Of_1 (S.nadd_0 a c))) (S.Of_0 (S.nadd_0 a d)) (S.Of_1 (S.nadd_0 a d))) (S.Of_0 (S.nadd_0 b c)) (S.Of_1 (S.nadd_0 b c))) (S.Of_0 (S.nadd_0 b d)) (S.Of_1 (S.nadd_0 b d)))))))
def S.eadd_2 (a b c d : Int) : Bool := (bif !S.nadd_1 a c then (false) else (bif !S.nadd_1 a d then (false) else (bif !S.nadd_1 b c then (false) else (bif !S.nadd_1 b d then (false) else (true)))))
theorem S.eadd_sim (a b c d : Int) : Sim prog 46 [.agg [.int true .i64 a, .int true .i64 b], .agg [.int true .i64 c, .int true .i64 d], .fn (.func 47) [] []] [] (.tup [.agg [.int true .i64 (S.eadd_0 a b c d), .int true .i64 (S.eadd_1 a b c d)], .bool true (S.eadd_2 a b c d)]) [] := by
 refine Sim.rng fun hrng => ?_
 try simp only [rngL, rngV, kLo, kHi] at hrng
 rcases Bool.eq_false_or_eq_true (!S.nadd_1 a c) with h0 | h0
 ·
  exact (sim_run (S.hE S.o_nright_ok) (show run _ 46 [.agg [.int true .i64 a, .int true .i64 b], .agg [.int true .i64 c, .int true .i64 d], .fn (.func 47) [] []] [] [.br true] = some (True ∧ (!S.nadd_1 a c) = true, .tup [.agg [.int false .i64 (-9223372036854775808), .int false .i64 9223372036854775807], .bool false false], []) by kernel_rfl) ⟨trivial, h0⟩).says (Says.tup (.cons (Says.agg (.cons (Says.int (by simp only [S.eadd_0, h0, cond_true, cond_false])) (.cons (Says.int (by simp only [S.eadd_1, h0, cond_true, cond_false])) (.nil)))) (.cons (Says.bool (by simp only [S.eadd_2, h0, cond_true, cond_false])) (.nil))))
 ·
  rcases Bool.eq_false_or_eq_true (!S.nadd_1 a d) with h1 | h1
  ·
   exact (sim_run (S.hE S.o_nright_ok) (show run _ 46 [.agg [.int true .i64 a, .int true .i64 b], .agg [.int true .i64 c, .int true .i64 d], .fn (.func 47) [] []] [] [.br false, .br true] = some ((True ∧ (!S.nadd_1 a c) = false) ∧ (!S.nadd_1 a d) = true, .tup [.agg [.int false .i64 (-9223372036854775808), .int false .i64 9223372036854775807], .bool false false], []) by kernel_rfl) ⟨⟨trivial, h0⟩, h1⟩).says (Says.tup (.cons (Says.agg (.cons (Says.int (by simp only [S.eadd_0, h1, h0, cond_true, cond_false])) (.cons (Says.int (by simp only [S.eadd_1, h1, h0, cond_true, cond_false])) (.nil)))) (.cons (Says.bool (by simp only [S.eadd_2, h1, h0, cond_true, cond_false])) (.nil))))
  ·
   rcases Bool.eq_false_or_eq_true (!S.nadd_1 b c) with h2 | h2
   ·
    exact (sim_run (S.hE S.o_nright_ok) (show run _ 46 [.agg [.int true .i64 a, .int true .i64 b], .agg [.int true .i64 c, .int true .i64 d], .fn (.func 47) [] []] [] [.br false, .br false, .br true] = some (((True ∧ (!S.nadd_1 a c) = false) ∧ (!S.nadd_1 a d) = false) ∧ (!S.nadd_1 b c) = true, .tup [.agg [.int false .i64 (-9223372036854775808), .int false .i64 9223372036854775807], .bool false false], []) by kernel_rfl) ⟨⟨⟨trivial, h0⟩, h1⟩, h2⟩).says (Says.tup (.cons (Says.agg (.cons (Says.int (by simp only [S.eadd_0, h2, h1, h0, cond_true, cond_false])) (.cons (Says.int (by simp only [S.eadd_1, h2, h1, h0, cond_true, cond_false])) (.nil)))) (.cons (Says.bool (by simp only [S.eadd_2, h2, h1, h0, cond_true, cond_false])) (.nil))))
   ·
    rcases Bool.eq_false_or_eq_true (!S.nadd_1 b d) with h3 | h3
    ·
     exact (sim_run (S.hE S.o_nright_ok) (show run _ 46 [.agg [.int true .i64 a, .int true .i64 b], .agg [.int true .i64 c, .int true .i64 d], .fn (.func 47) [] []] [] [.br false, .br false, .br false, .br true] = some ((((True ∧ (!S.nadd_1 a c) = false) ∧ (!S.nadd_1 a d) = false) ∧ (!S.nadd_1 b c) = false) ∧ (!S.nadd_1 b d) = true, .tup [.agg [.int false .i64 (-9223372036854775808), .int false .i64 9223372036854775807], .bool false false], []) by kernel_rfl) ⟨⟨⟨⟨trivial, h0⟩, h1⟩, h2⟩, h3⟩).says (Says.tup (.cons (Says.agg (.cons (Says.int (by simp only [S.eadd_0, h3, h2, h1, h0, cond_true, cond_false])) (.cons (Says.int (by simp only [S.eadd_1, h3, h2, h1, h0, cond_true, cond_false])) (.nil)))) (.cons (Says.bool (by simp only [S.eadd_2, h3, h2, h1, h0, cond_true, cond_false])) (.nil))))
    ·
     exact (sim_run (S.hE S.o_nright_ok) (show run _ 46 [.agg [.int true .i64 a, .int true .i64 b], .agg [.int true .i64 c, .int true .i64 d], .fn (.func 47) [] []] [] [.br false, .br false, .br false, .br false] = some ((((True ∧ (!S.nadd_1 a c) = false) ∧ (!S.nadd_1 a d) = false) ∧ (!S.nadd_1 b c) = false) ∧ (!S.nadd_1 b d) = false, .tup [.agg [.int true .i64 (S.Join_0 (S.Join_0 (S.Join_0 (S.Join_0 1 0 (S.Of_0 (S.nadd_0 a c)) (S.Of_1 (S.nadd_0 a c))) (S.Join_1 1 0 (S.Of_0 (S.nadd_0 a c)) (S.Of_1 (S.nadd_0 a c))) (S.Of_0 (S.nadd_0 a d)) (S.Of_1 (S.nadd_0 a d))) (S.Join_1 (S.Join_0 1 0 (S.Of_0 (S.nadd_0 a c)) (S.Of_1 (S.nadd_0 a c))) (S.Join_1 1 0 (S.Of_0 (S.nadd_0 a c)) (S.Of_1 (S.nadd_0 a c))) (S.Of_0 (S.nadd_0 a d)) (S.Of_1 (S.nadd_0 a d))) (S.Of_0 (S.nadd_0 b c)) (S.Of_1 (S.nadd_0 b c))) (S.Join_1 (S.Join_0 (S.Join_0 1 0 (S.Of_0 (S.nadd_0 a c)) (S.Of_1 (S.nadd_0 a c))) (S.Join_1 1 0 (S.Of_0 (S.nadd_0 a c)) (S.Of_1 (S.nadd_0 a c))) (S.Of_0 (S.nadd_0 a d)) (S.Of_1 (S.nadd_0 a d))) (S.Join_1 (S.Join_0 1 0 (S.Of_0 (S.nadd_0 a c)) (S.Of_1 (S.nadd_0 a c))) (S.Join_1 1 0 (S.Of_0 (S.nadd_0 a c)) (S.Of_1 (S.nadd_0 a c))) (S.Of_0 (S.nadd_0 a d)) (S.Of_1 (S.nadd_0 a d))) (S.Of_0 (S.nadd_0 b c)) (S.Of_1 (S.nadd_0 b c))) (S.Of_0 (S.nadd_0 b d)) (S.Of_1 (S.nadd_0 b d))), .int true .i64 (S.Join_1 (S.Join_0 (S.Join_0 (S.Join_0 1 0 (S.Of_0 (S.nadd_0 a c)) (S.Of_1 (S.nadd_0 a c))) (S.Join_1 1 0 (S.Of_0 (S.nadd_0 a c)) (S.Of_1 (S.nadd_0 a c))) (S.Of_0 (S.nadd_0 a d)) (S.Of_1 (S.nadd_0 a d))) (S.Join_1 (S.Join_0 1 0 (S.Of_0 (S.nadd_0 a c)) (S.Of_1 (S.nadd_0 a c))) (S.Join_1 1 0 (S.Of_0 (S.nadd_0 a c)) (S.Of_1 (S.nadd_0 a c))) (S.Of_0 (S.nadd_0 a d)) (S.Of_1 (S.nadd_0 a d))) (S.Of_0 (S.nadd_0 b c)) (S.Of_1 (S.nadd_0 b c))) (S.Join_1 (S.Join_0 (S.Join_0 1 0 (S.Of_0 (S.nadd_0 a c)) (S.Of_1 (S.nadd_0 a c))) (S.Join_1 1 0 (S.Of_0 (S.nadd_0 a c)) (S.Of_1 (S.nadd_0 a c))) (S.Of_0 (S.nadd_0 a d)) (S.Of_1 (S.nadd_0 a d))) (S.Join_1 (S.Join_0 1 0 (S.Of_0 (S.nadd_0 a c)) (S.Of_1 (S.nadd_0 a c))) (S.Join_1 1 0 (S.Of_0 (S.nadd_0 a c)) (S.Of_1 (S.nadd_0 a c))) (S.Of_0 (S.nadd_0 a d)) (S.Of_1 (S.nadd_0 a d))) (S.Of_0 (S.nadd_0 b c)) (S.Of_1 (S.nadd_0 b c))) (S.Of_0 (S.nadd_0 b d)) (S.Of_1 (S.nadd_0 b d)))], .bool false true], []) by kernel_rfl) ⟨⟨⟨⟨trivial, h0⟩, h1⟩, h2⟩, h3⟩).says (Says.tup (.cons (Says.agg (.cons (Says.int (by simp only [S.eadd_0, h3, h2, h1, h0, cond_true, cond_false])) (.cons (Says.int (by simp only [S.eadd_1, h3, h2, h1, h0, cond_true, cond_false])) (.nil)))) (.cons (Says.bool (by simp only [S.eadd_2, h3, h2, h1, h0, cond_true, cond_false])) (.nil))))
def S.o_eadd : Orc := orcAdd 46 (fun | [.agg [.int true .i64 a, .int true .i64 b], .agg [.int true .i64 c, .int true .i64 d], .fn (.func 47) [] []] => some (.tup [.agg [.int true .i64 (S.eadd_0 a b c d), .int true .i64 (S.eadd_1 a b c d)], .bool true (S.eadd_2 a b c d)]) | _ => none) S.o_nright
theorem S.o_eadd_ok : OrcOk prog S.o_eadd := orcAdd_ok S.o_nright_ok fun a v h => by
  try dsimp only at h
  split at h
  · rename_i a b c d; cases h; exact S.eadd_sim a b c d
  · cases h
def S.esub_0 (a b c d : Int) : Int := (bif !S.nsub_1 a c then (-9223372036854775808) else (bif !S.nsub_1 a d then (-9223372036854775808) else (bif !S.nsub_1 b c then (-9223372036854775808) else (bif !S.nsub_1 b d then (-9223372036854775808) else (S.Join_0 (S.Join_0 (S.Join_0 (S.Join_0 1 0 (S.Of_0 (S.nsub_0 a c)) (S.Of_1 (S.nsub_0 a c))) (S.Join_1 1 0 (S.Of_0 (S.nsub_0 a c)) (S.Of_1 (S.nsub_0 a c))) (S.Of_0 (S.nsub_0 a d)) (S.Of_1 (S.nsub_0 a d))) (S.Join_1 (S.Join_0 1 0 (S.Of_0 (S.nsub_0 a c)) (S.Of_1 (S.nsub_0 a c))) (S.Join_1 1 0 (S.Of_0 (S.nsub_0 a c)) (S.Of_1 (S.nsub_0 a c))) (S.Of_0 (S.nsub_0 a d)) (S.Of_1 (S.nsub_0 a d))) (S.Of_0 (S.nsub_0 b c)) (S.Of_1 (S.nsub_0 b c))) (S.Join_1 (S.Join_0 (S.Join_0 1 0 (S.Of_0 (S.nsub_0 a c)) (S.Of_1 (S.nsub_0 a c))) (S.Join_1 1 0 (S.Of_0 (S.nsub_0 a c)) (S.Of_1 (S.nsub_0 a c))) (S.Of_0 (S.nsub_0 a d)) (S.Of_1 (S.nsub_0 a d))) (S.Join_1 (S.Join_0 1 0 (S.Of_0 (S.nsub_0 a c)) (S.Of_1 (S.nsub_0 a c))) (S.Join_1 1 0 (S.Of_0 (S.nsub_0 a c)) (S.Of_1 (S.nsub_0 a c))) (S.Of_0 (S.nsub_0 a d)) (S.Of_1 (S.nsub_0 a d))) (S.Of_0 (S.nsub_0 b c)) (S.Of_1 (S.nsub_0 b c))) (S.Of_0 (S.nsub_0 b d)) (S.Of_1 (S.nsub_0 b d)))))))
def S.esub_1 (a b c d : Int) : Int := (bif !S.nsub_1 a c then (9223372036854775807) else (bif !S.nsub_1 a d then (9223372036854775807) else (bif !S.nsub_1 b c then (9223372036854775807) else (bif !S.nsub_1 b d then (9223372036854775807) else (S.Join_1 (S.Join_0 (S.Join_0 (S.Join_0 1 0 (S.Of_0 (S.nsub_0 a c)) (S.Of_1 (S.nsub_0 a c))) (S.Join_1 1 0 (S.Of_0 (S.nsub_0 a c)) (S.Of_1 (S.nsub_0 a c))) (S.Of_0 (S.nsub_0 a d)) (S.Of_1 (S.nsub_0 a d))) (S.Join_1 (S.Join_0 1 0 (S.Of_0 (S.nsub_0 a c)) (S.Of_1 (S.nsub_0 a c))) (S.Join_1 1 0 (S.Of_0 (S.nsub_0 a c)) (S.Of_1 (S.nsub_0 a c))) (S.Of_0 (S.nsub_0 a d)) (S.Of_1 (S.nsub_0 a d))) (S.Of_0 (S.nsub_0 b c)) (S.Of_1 (S.nsub_0 b c))) (S.Join_1 (S.Join_0 (S.Join_0 1 0 (S.Of_0 (S.nsub_0 a c)) (S.Of_1 (S.nsub_0 a c))) (S.Join_1 1 0 (S.Of_0 (S.nsub_0 a c)) (S.Of_1 (S.nsub_0 a c))) (S.Of_0 (S.nsub_0 a d)) (S.Of_1 (S.nsub_0 a d))) (S.Join_1 (S.Join_0 1 0 (S.Of_0 (S.nsub_0 a c)) (S.Of_1 (S.nsub_0 a c))) (S.Join_1 1 0 (S.Of_0 (S.nsub_0 a c)) (S.Of_1 (S.nsub_0 a c))) (S.Of_0 (S.nsub_0 a d)) (S.Of_1 (S.nsub_0 a d))) (S.Of_0 (S.nsub_0 b c)) (S.Of_1 (S.nsub_0 b c))) (S.Of_0 (S.nsub_0 b d)) (S.Of_1 (S.nsub_0 b d)))))))
def S.esub_2 (a b c d : Int) : Bool := (bif !S.nsub_1 a c then (false) else (bif !S.nsub_1 a d then (false) else (bif !S.nsub_1 b c then (false) else (bif !S.nsub_1 b d then (false) else (true)))))
theorem S.esub_sim (a b c d : Int) : Sim prog 46 [.agg [.int true .i64 a, .int true .i64 b], .agg [.int true .i64 c, .int true .i64 d], .fn (.func 48) [] []] [] (.tup [.agg [.int true .i64 (S.esub_0 a b c d), .int true .i64 (S.esub_1 a b c d)], .bool true (S.esub_2 a b c d)]) [] := by
 refine Sim.rng fun hrng => ?_
 try simp only [rngL, rngV, kLo, kHi] at hrng
 rcases Bool.eq_false_or_eq_true (!S.nsub_1 a c) with h0 | h0
 ·
  exact (sim_run (S.hE S.o_eadd_ok) (show run _ 46 [.agg [.int true .i64 a, .int true .i64 b], .agg [.int true .i64 c, .int true .i64 d], .fn (.func 48) [] []] [] [.br true] = some (True ∧ (!S.nsub_1 a c) = true, .tup [.agg [.int false .i64 (-9223372036854775808), .int false .i64 9223372036854775807], .bool false false], []) by kernel_rfl) ⟨trivial, h0⟩).says (Says.tup (.cons (Says.agg (.cons (Says.int (by simp only [S.esub_0, h0, cond_true, cond_false])) (.cons (Says.int (by simp only [S.esub_1, h0, cond_true, cond_false])) (.nil)))) (.cons (Says.bool (by simp only [S.esub_2, h0, cond_true, cond_false])) (.nil))))
 ·
  rcases Bool.eq_false_or_eq_true (!S.nsub_1 a d) with h1 | h1
  ·
   exact (sim_run (S.hE S.o_eadd_ok) (show run _ 46 [.agg [.int true .i64 a, .int true .i64 b], .agg [.int true .i64 c, .int true .i64 d], .fn (.func 48) [] []] [] [.br false, .br true] = some ((True ∧ (!S.nsub_1 a c) = false) ∧ (!S.nsub_1 a d) = true, .tup [.agg [.int false .i64 (-9223372036854775808), .int false .i64 9223372036854775807], .bool false false], []) by kernel_rfl) ⟨⟨trivial, h0⟩, h1⟩).says (Says.tup (.cons (Says.agg (.cons (Says.int (by simp only [S.esub_0, h1, h0, cond_true, cond_false])) (.cons (Says.int (by simp only [S.esub_1, h1, h0, cond_true, cond_false])) (.nil)))) (.cons (Says.bool (by simp only [S.esub_2, h1, h0, cond_true, cond_false])) (.nil))))
  ·
   rcases Bool.eq_false_or_eq_true (!S.nsub_1 b c) with h2 | h2
   ·
    exact (sim_run (S.hE S.o_eadd_ok) (show run _ 46 [.agg [.int true .i64 a, .int true .i64 b], .agg [.int true .i64 c, .int true .i64 d], .fn (.func 48) [] []] [] [.br false, .br false, .br true] = some (((True ∧ (!S.nsub_1 a c) = false) ∧ (!S.nsub_1 a d) = false) ∧ (!S.nsub_1 b c) = true, .tup [.agg [.int false .i64 (-9223372036854775808), .int false .i64 9223372036854775807], .bool false false], []) by kernel_rfl) ⟨⟨⟨trivial, h0⟩, h1⟩, h2⟩).says (Says.tup (.cons (Says.agg (.cons (Says.int (by simp only [S.esub_0, h2, h1, h0, cond_true, cond_false])) (.cons (Says.int (by simp only [S.esub_1, h2, h1, h0, cond_true, cond_false])) (.nil)))) (.cons (Says.bool (by simp only [S.esub_2, h2, h1, h0, cond_true, cond_false])) (.nil))))
   ·
    rcases Bool.eq_false_or_eq_true (!S.nsub_1 b d) with h3 | h3
    ·
     exact (sim_run (S.hE S.o_eadd_ok) (show run _ 46 [.agg [.int true .i64 a, .int true .i64 b], .agg [.int true .i64 c, .int true .i64 d], .fn (.func 48) [] []] [] [.br false, .br false, .br false, .br true] = some ((((True ∧ (!S.nsub_1 a c) = false) ∧ (!S.nsub_1 a d) = false) ∧ (!S.nsub_1 b c) = false) ∧ (!S.nsub_1 b d) = true, .tup [.agg [.int false .i64 (-9223372036854775808), .int false .i64 9223372036854775807], .bool false false], []) by kernel_rfl) ⟨⟨⟨⟨trivial, h0⟩, h1⟩, h2⟩, h3⟩).says (Says.tup (.cons (Says.agg (.cons (Says.int (by simp only [S.esub_0, h3, h2, h1, h0, cond_true, cond_false])) (.cons (Says.int (by simp only [S.esub_1, h3, h2, h1, h0, cond_true, cond_false])) (.nil)))) (.cons (Says.bool (by simp only [S.esub_2, h3, h2, h1, h0, cond_true, cond_false])) (.nil))))
    ·
     exact (sim_run (S.hE S.o_eadd_ok) (show run _ 46 [.agg [.int true .i64 a, .int true .i64 b], .agg [.int true .i64 c, .int true .i64 d], .fn (.func 48) [] []] [] [.br false, .br false, .br false, .br false] = some ((((True ∧ (!S.nsub_1 a c) = false) ∧ (!S.nsub_1 a d) = false) ∧ (!S.nsub_1 b c) = false) ∧ (!S.nsub_1 b d) = false, .tup [.agg [.int true .i64 (S.Join_0 (S.Join_0 (S.Join_0 (S.Join_0 1 0 (S.Of_0 (S.nsub_0 a c)) (S.Of_1 (S.nsub_0 a c))) (S.Join_1 1 0 (S.Of_0 (S.nsub_0 a c)) (S.Of_1 (S.nsub_0 a c))) (S.Of_0 (S.nsub_0 a d)) (S.Of_1 (S.nsub_0 a d))) (S.Join_1 (S.Join_0 1 0 (S.Of_0 (S.nsub_0 a c)) (S.Of_1 (S.nsub_0 a c))) (S.Join_1 1 0 (S.Of_0 (S.nsub_0 a c)) (S.Of_1 (S.nsub_0 a c))) (S.Of_0 (S.nsub_0 a d)) (S.Of_1 (S.nsub_0 a d))) (S.Of_0 (S.nsub_0 b c)) (S.Of_1 (S.nsub_0 b c))) (S.Join_1 (S.Join_0 (S.Join_0 1 0 (S.Of_0 (S.nsub_0 a c)) (S.Of_1 (S.nsub_0 a c))) (S.Join_1 1 0 (S.Of_0 (S.nsub_0 a c)) (S.Of_1 (S.nsub_0 a c))) (S.Of_0 (S.nsub_0 a d)) (S.Of_1 (S.nsub_0 a d))) (S.Join_1 (S.Join_0 1 0 (S.Of_0 (S.nsub_0 a c)) (S.Of_1 (S.nsub_0 a c))) (S.Join_1 1 0 (S.Of_0 (S.nsub_0 a c)) (S.Of_1 (S.nsub_0 a c))) (S.Of_0 (S.nsub_0 a d)) (S.Of_1 (S.nsub_0 a d))) (S.Of_0 (S.nsub_0 b c)) (S.Of_1 (S.nsub_0 b c))) (S.Of_0 (S.nsub_0 b d)) (S.Of_1 (S.nsub_0 b d))), .int true .i64 (S.Join_1 (S.Join_0 (S.Join_0 (S.Join_0 1 0 (S.Of_0 (S.nsub_0 a c)) (S.Of_1 (S.nsub_0 a c))) (S.Join_1 1 0 (S.Of_0 (S.nsub_0 a c)) (S.Of_1 (S.nsub_0 a c))) (S.Of_0 (S.nsub_0 a d)) (S.Of_1 (S.nsub_0 a d))) (S.Join_1 (S.Join_0 1 0 (S.Of_0 (S.nsub_0 a c)) (S.Of_1 (S.nsub_0 a c))) (S.Join_1 1 0 (S.Of_0 (S.nsub_0 a c)) (S.Of_1 (S.nsub_0 a c))) (S.Of_0 (S.nsub_0 a d)) (S.Of_1 (S.nsub_0 a d))) (S.Of_0 (S.nsub_0 b c)) (S.Of_1 (S.nsub_0 b c))) (S.Join_1 (S.Join_0 (S.Join_0 1 0 (S.Of_0 (S.nsub_0 a c)) (S.Of_1 (S.nsub_0 a c))) (S.Join_1 1 0 (S.Of_0 (S.nsub_0 a c)) (S.Of_1 (S.nsub_0 a c))) (S.Of_0 (S.nsub_0 a d)) (S.Of_1 (S.nsub_0 a d))) (S.Join_1 (S.Join_0 1 0 (S.Of_0 (S.nsub_0 a c)) (S.Of_1 (S.nsub_0 a c))) (S.Join_1 1 0 (S.Of_0 (S.nsub_0 a c)) (S.Of_1 (S.nsub_0 a c))) (S.Of_0 (S.nsub_0 a d)) (S.Of_1 (S.nsub_0 a d))) (S.Of_0 (S.nsub_0 b c)) (S.Of_1 (S.nsub_0 b c))) (S.Of_0 (S.nsub_0 b d)) (S.Of_1 (S.nsub_0 b d)))], .bool false true], []) by kernel_rfl) ⟨⟨⟨⟨trivial, h0⟩, h1⟩, h2⟩, h3⟩).says (Says.tup (.cons (Says.agg (.cons (Says.int (by simp only [S.esub_0, h3, h2, h1, h0, cond_true, cond_false])) (.cons (Says.int (by simp only [S.esub_1, h3, h2, h1, h0, cond_true, cond_false])) (.nil)))) (.cons (Says.bool (by simp only [S.esub_2, h3, h2, h1, h0, cond_true, cond_false])) (.nil))))
def S.o_esub : Orc := orcAdd 46 (fun | [.agg [.int true .i64 a, .int true .i64 b], .agg [.int true .i64 c, .int true .i64 d], .fn (.func 48) [] []] => some (.tup [.agg [.int true .i64 (S.esub_0 a b c d), .int true .i64 (S.esub_1 a b c d)], .bool true (S.esub_2 a b c d)]) | _ => none) S.o_eadd
theorem S.o_esub_ok : OrcOk prog S.o_esub := orcAdd_ok S.o_eadd_ok fun a v h => by
  try dsimp only at h
  split at h
  · rename_i a b c d; cases h; exact S.esub_sim a b c d
  · cases h
def S.emul_0 (a b c d : Int) : Int := (bif !S.nmul_1 a c then (-9223372036854775808) else (bif !S.nmul_1 a d then (-9223372036854775808) else (bif !S.nmul_1 b c then (-9223372036854775808) else (bif !S.nmul_1 b d then (-9223372036854775808) else (S.Join_0 (S.Join_0 (S.Join_0 (S.Join_0 1 0 (S.Of_0 (S.nmul_0 a c)) (S.Of_1 (S.nmul_0 a c))) (S.Join_1 1 0 (S.Of_0 (S.nmul_0 a c)) (S.Of_1 (S.nmul_0 a c))) (S.Of_0 (S.nmul_0 a d)) (S.Of_1 (S.nmul_0 a d))) (S.Join_1 (S.Join_0 1 0 (S.Of_0 (S.nmul_0 a c)) (S.Of_1 (S.nmul_0 a c))) (S.Join_1 1 0 (S.Of_0 (S.nmul_0 a c)) (S.Of_1 (S.nmul_0 a c))) (S.Of_0 (S.nmul_0 a d)) (S.Of_1 (S.nmul_0 a d))) (S.Of_0 (S.nmul_0 b c)) (S.Of_1 (S.nmul_0 b c))) (S.Join_1 (S.Join_0 (S.Join_0 1 0 (S.Of_0 (S.nmul_0 a c)) (S.Of_1 (S.nmul_0 a c))) (S.Join_1 1 0 (S.Of_0 (S.nmul_0 a c)) (S.Of_1 (S.nmul_0 a c))) (S.Of_0 (S.nmul_0 a d)) (S.Of_1 (S.nmul_0 a d))) (S.Join_1 (S.Join_0 1 0 (S.Of_0 (S.nmul_0 a c)) (S.Of_1 (S.nmul_0 a c))) (S.Join_1 1 0 (S.Of_0 (S.nmul_0 a c)) (S.Of_1 (S.nmul_0 a c))) (S.Of_0 (S.nmul_0 a d)) (S.Of_1 (S.nmul_0 a d))) (S.Of_0 (S.nmul_0 b c)) (S.Of_1 (S.nmul_0 b c))) (S.Of_0 (S.nmul_0 b d)) (S.Of_1 (S.nmul_0 b d)))))))
def S.emul_1 (a b c d : Int) : Int := (bif !S.nmul_1 a c then (9223372036854775807) else (bif !S.nmul_1 a d then (9223372036854775807) else (bif !S.nmul_1 b c then (9223372036854775807) else (bif !S.nmul_1 b d then (9223372036854775807) else (S.Join_1 (S.Join_0 (S.Join_0 (S.Join_0 1 0 (S.Of_0 (S.nmul_0 a c)) (S.Of_1 (S.nmul_0 a c))) (S.Join_1 1 0 (S.Of_0 (S.nmul_0 a c)) (S.Of_1 (S.nmul_0 a c))) (S.Of_0 (S.nmul_0 a d)) (S.Of_1 (S.nmul_0 a d))) (S.Join_1 (S.Join_0 1 0 (S.Of_0 (S.nmul_0 a c)) (S.Of_1 (S.nmul_0 a c))) (S.Join_1 1 0 (S.Of_0 (S.nmul_0 a c)) (S.Of_1 (S.nmul_0 a c))) (S.Of_0 (S.nmul_0 a d)) (S.Of_1 (S.nmul_0 a d))) (S.Of_0 (S.nmul_0 b c)) (S.Of_1 (S.nmul_0 b c))) (S.Join_1 (S.Join_0 (S.Join_0 1 0 (S.Of_0 (S.nmul_0 a c)) (S.Of_1 (S.nmul_0 a c))) (S.Join_1 1 0 (S.Of_0 (S.nmul_0 a c)) (S.Of_1 (S.nmul_0 a c))) (S.Of_0 (S.nmul_0 a d)) (S.Of_1 (S.nmul_0 a d))) (S.Join_1 (S.Join_0 1 0 (S.Of_0 (S.nmul_0 a c)) (S.Of_1 (S.nmul_0 a c))) (S.Join_1 1 0 (S.Of_0 (S.nmul_0 a c)) (S.Of_1 (S.nmul_0 a c))) (S.Of_0 (S.nmul_0 a d)) (S.Of_1 (S.nmul_0 a d))) (S.Of_0 (S.nmul_0 b c)) (S.Of_1 (S.nmul_0 b c))) (S.Of_0 (S.nmul_0 b d)) (S.Of_1 (S.nmul_0 b d)))))))
def S.emul_2 (a b c d : Int) : Bool := (bif !S.nmul_1 a c then (false) else (bif !S.nmul_1 a d then (false) else (bif !S.nmul_1 b c then (false) else (bif !S.nmul_1 b d then (false) else (true)))))
theorem S.emul_sim (a b c d : Int) : Sim prog 46 [.agg [.int true .i64 a, .int true .i64 b], .agg [.int true .i64 c, .int true .i64 d], .fn (.func 49) [] []] [] (.tup [.agg [.int true .i64 (S.emul_0 a b c d), .int true .i64 (S.emul_1 a b c d)], .bool true (S.emul_2 a b c d)]) [] := by
 refine Sim.rng fun hrng => ?_
 try simp only [rngL, rngV, kLo, kHi] at hrng
 rcases Bool.eq_false_or_eq_true (!S.nmul_1 a c) with h0 | h0
 ·
  exact (sim_run (S.hE S.o_esub_ok) (show run _ 46 [.agg [.int true .i64 a, .int true .i64 b], .agg [.int true .i64 c, .int true .i64 d], .fn (.func 49) [] []] [] [.br true] = some (True ∧ (!S.nmul_1 a c) = true, .tup [.agg [.int false .i64 (-9223372036854775808), .int false .i64 9223372036854775807], .bool false false], []) by kernel_rfl) ⟨trivial, h0⟩).says (Says.tup (.cons (Says.agg (.cons (Says.int (by simp only [S.emul_0, h0, cond_true, cond_false])) (.cons (Says.int (by simp only [S.emul_1, h0, cond_true, cond_false])) (.nil)))) (.cons (Says.bool (by simp only [S.emul_2, h0, cond_true, cond_false])) (.nil))))
 ·
  rcases Bool.eq_false_or_eq_true (!S.nmul_1 a d) with h1 | h1
  ·
   exact (sim_run (S.hE S.o_esub_ok) (show run _ 46 [.agg [.int true .i64 a, .int true .i64 b], .agg [.int true .i64 c, .int true .i64 d], .fn (.func 49) [] []] [] [.br false, .br true] = some ((True ∧ (!S.nmul_1 a c) = false) ∧ (!S.nmul_1 a d) = true, .tup [.agg [.int false .i64 (-9223372036854775808), .int false .i64 9223372036854775807], .bool false false], []) by kernel_rfl) ⟨⟨trivial, h0⟩, h1⟩).says (Says.tup (.cons (Says.agg (.cons (Says.int (by simp only [S.emul_0, h1, h0, cond_true, cond_false])) (.cons (Says.int (by simp only [S.emul_1, h1, h0, cond_true, cond_false])) (.nil)))) (.cons (Says.bool (by simp only [S.emul_2, h1, h0, cond_true, cond_false])) (.nil))))
  ·
   rcases Bool.eq_false_or_eq_true (!S.nmul_1 b c) with h2 | h2
   ·
    exact (sim_run (S.hE S.o_esub_ok) (show run _ 46 [.agg [.int true .i64 a, .int true .i64 b], .agg [.int true .i64 c, .int true .i64 d], .fn (.func 49) [] []] [] [.br false, .br false, .br true] = some (((True ∧ (!S.nmul_1 a c) = false) ∧ (!S.nmul_1 a d) = false) ∧ (!S.nmul_1 b c) = true, .tup [.agg [.int false .i64 (-9223372036854775808), .int false .i64 9223372036854775807], .bool false false], []) by kernel_rfl) ⟨⟨⟨trivial, h0⟩, h1⟩, h2⟩).says (Says.tup (.cons (Says.agg (.cons (Says.int (by simp only [S.emul_0, h2, h1, h0, cond_true, cond_false])) (.cons (Says.int (by simp only [S.emul_1, h2, h1, h0, cond_true, cond_false])) (.nil)))) (.cons (Says.bool (by simp only [S.emul_2, h2, h1, h0, cond_true, cond_false])) (.nil))))
   ·
    rcases Bool.eq_false_or_eq_true (!S.nmul_1 b d) with h3 | h3
    ·
     exact (sim_run (S.hE S.o_esub_ok) (show run _ 46 [.agg [.int true .i64 a, .int true .i64 b], .agg [.int true .i64 c, .int true .i64 d], .fn (.func 49) [] []] [] [.br false, .br false, .br false, .br true] = some ((((True ∧ (!S.nmul_1 a c) = false) ∧ (!S.nmul_1 a d) = false) ∧ (!S.nmul_1 b c) = false) ∧ (!S.nmul_1 b d) = true, .tup [.agg [.int false .i64 (-9223372036854775808), .int false .i64 9223372036854775807], .bool false false], []) by kernel_rfl) ⟨⟨⟨⟨trivial, h0⟩, h1⟩, h2⟩, h3⟩).says (Says.tup (.cons (Says.agg (.cons (Says.int (by simp only [S.emul_0, h3, h2, h1, h0, cond_true, cond_false])) (.cons (Says.int (by simp only [S.emul_1, h3, h2, h1, h0, cond_true, cond_false])) (.nil)))) (.cons (Says.bool (by simp only [S.emul_2, h3, h2, h1, h0, cond_true, cond_false])) (.nil))))
    ·
     exact (sim_run (S.hE S.o_esub_ok) (show run _ 46 [.agg [.int true .i64 a, .int true .i64 b], .agg [.int true .i64 c, .int true .i64 d], .fn (.func 49) [] []] [] [.br false, .br false, .br false, .br false] = some ((((True ∧ (!S.nmul_1 a c) = false) ∧ (!S.nmul_1 a d) = false) ∧ (!S.nmul_1 b c) = false) ∧ (!S.nmul_1 b d) = false, .tup [.agg [.int true .i64 (S.Join_0 (S.Join_0 (S.Join_0 (S.Join_0 1 0 (S.Of_0 (S.nmul_0 a c)) (S.Of_1 (S.nmul_0 a c))) (S.Join_1 1 0 (S.Of_0 (S.nmul_0 a c)) (S.Of_1 (S.nmul_0 a c))) (S.Of_0 (S.nmul_0 a d)) (S.Of_1 (S.nmul_0 a d))) (S.Join_1 (S.Join_0 1 0 (S.Of_0 (S.nmul_0 a c)) (S.Of_1 (S.nmul_0 a c))) (S.Join_1 1 0 (S.Of_0 (S.nmul_0 a c)) (S.Of_1 (S.nmul_0 a c))) (S.Of_0 (S.nmul_0 a d)) (S.Of_1 (S.nmul_0 a d))) (S.Of_0 (S.nmul_0 b c)) (S.Of_1 (S.nmul_0 b c))) (S.Join_1 (S.Join_0 (S.Join_0 1 0 (S.Of_0 (S.nmul_0 a c)) (S.Of_1 (S.nmul_0 a c))) (S.Join_1 1 0 (S.Of_0 (S.nmul_0 a c)) (S.Of_1 (S.nmul_0 a c))) (S.Of_0 (S.nmul_0 a d)) (S.Of_1 (S.nmul_0 a d))) (S.Join_1 (S.Join_0 1 0 (S.Of_0 (S.nmul_0 a c)) (S.Of_1 (S.nmul_0 a c))) (S.Join_1 1 0 (S.Of_0 (S.nmul_0 a c)) (S.Of_1 (S.nmul_0 a c))) (S.Of_0 (S.nmul_0 a d)) (S.Of_1 (S.nmul_0 a d))) (S.Of_0 (S.nmul_0 b c)) (S.Of_1 (S.nmul_0 b c))) (S.Of_0 (S.nmul_0 b d)) (S.Of_1 (S.nmul_0 b d))), .int true .i64 (S.Join_1 (S.Join_0 (S.Join_0 (S.Join_0 1 0 (S.Of_0 (S.nmul_0 a c)) (S.Of_1 (S.nmul_0 a c))) (S.Join_1 1 0 (S.Of_0 (S.nmul_0 a c)) (S.Of_1 (S.nmul_0 a c))) (S.Of_0 (S.nmul_0 a d)) (S.Of_1 (S.nmul_0 a d))) (S.Join_1 (S.Join_0 1 0 (S.Of_0 (S.nmul_0 a c)) (S.Of_1 (S.nmul_0 a c))) (S.Join_1 1 0 (S.Of_0 (S.nmul_0 a c)) (S.Of_1 (S.nmul_0 a c))) (S.Of_0 (S.nmul_0 a d)) (S.Of_1 (S.nmul_0 a d))) (S.Of_0 (S.nmul_0 b c)) (S.Of_1 (S.nmul_0 b c))) (S.Join_1 (S.Join_0 (S.Join_0 1 0 (S.Of_0 (S.nmul_0 a c)) (S.Of_1 (S.nmul_0 a c))) (S.Join_1 1 0 (S.Of_0 (S.nmul_0 a c)) (S.Of_1 (S.nmul_0 a c))) (S.Of_0 (S.nmul_0 a d)) (S.Of_1 (S.nmul_0 a d))) (S.Join_1 (S.Join_0 1 0 (S.Of_0 (S.nmul_0 a c)) (S.Of_1 (S.nmul_0 a c))) (S.Join_1 1 0 (S.Of_0 (S.nmul_0 a c)) (S.Of_1 (S.nmul_0 a c))) (S.Of_0 (S.nmul_0 a d)) (S.Of_1 (S.nmul_0 a d))) (S.Of_0 (S.nmul_0 b c)) (S.Of_1 (S.nmul_0 b c))) (S.Of_0 (S.nmul_0 b d)) (S.Of_1 (S.nmul_0 b d)))], .bool false true], []) by kernel_rfl) ⟨⟨⟨⟨trivial, h0⟩, h1⟩, h2⟩, h3⟩).says (Says.tup (.cons (Says.agg (.cons (Says.int (by simp only [S.emul_0, h3, h2, h1, h0, cond_true, cond_false])) (.cons (Says.int (by simp only [S.emul_1, h3, h2, h1, h0, cond_true, cond_false])) (.nil)))) (.cons (Says.bool (by simp only [S.emul_2, h3, h2, h1, h0, cond_true, cond_false])) (.nil))))
def S.o_emul : Orc := orcAdd 46 (fun | [.agg [.int true .i64 a, .int true .i64 b], .agg [.int true .i64 c, .int true .i64 d], .fn (.func 49) [] []] => some (.tup [.agg [.int true .i64 (S.emul_0 a b c d), .int true .i64 (S.emul_1 a b c d)], .bool true (S.emul_2 a b c d)]) | _ => none) S.o_esub
theorem S.o_emul_ok : OrcOk prog S.o_emul := orcAdd_ok S.o_esub_ok fun a v h => by
  try dsimp only at h
  split at h
  · rename_i a b c d; cases h; exact S.emul_sim a b c d
  · cases h
def S.eright_0 (a b c d : Int) : Int := (bif !S.nright_1 a c then (-9223372036854775808) else (bif !S.nright_1 a d then (-9223372036854775808) else (bif !S.nright_1 b c then (-9223372036854775808) else (bif !S.nright_1 b d then (-9223372036854775808) else (S.Join_0 (S.Join_0 (S.Join_0 (S.Join_0 1 0 (S.Of_0 (S.nright_0 a c)) (S.Of_1 (S.nright_0 a c))) (S.Join_1 1 0 (S.Of_0 (S.nright_0 a c)) (S.Of_1 (S.nright_0 a c))) (S.Of_0 (S.nright_0 a d)) (S.Of_1 (S.nright_0 a d))) (S.Join_1 (S.Join_0 1 0 (S.Of_0 (S.nright_0 a c)) (S.Of_1 (S.nright_0 a c))) (S.Join_1 1 0 (S.Of_0 (S.nright_0 a c)) (S.Of_1 (S.nright_0 a c))) (S.Of_0 (S.nright_0 a d)) (S.Of_1 (S.nright_0 a d))) (S.Of_0 (S.nright_0 b c)) (S.Of_1 (S.nright_0 b c))) (S.Join_1 (S.Join_0 (S.Join_0 1 0 (S.Of_0 (S.nright_0 a c)) (S.Of_1 (S.nright_0 a c))) (S.Join_1 1 0 (S.Of_0 (S.nright_0 a c)) (S.Of_1 (S.nright_0 a c))) (S.Of_0 (S.nright_0 a d)) (S.Of_1 (S.nright_0 a d))) (S.Join_1 (S.Join_0 1 0 (S.Of_0 (S.nright_0 a c)) (S.Of_1 (S.nright_0 a c))) (S.Join_1 1 0 (S.Of_0 (S.nright_0 a c)) (S.Of_1 (S.nright_0 a c))) (S.Of_0 (S.nright_0 a d)) (S.Of_1 (S.nright_0 a d))) (S.Of_0 (S.nright_0 b c)) (S.Of_1 (S.nright_0 b c))) (S.Of_0 (S.nright_0 b d)) (S.Of_1 (S.nright_0 b d)))))))
def S.eright_1 (a b c d : Int) : Int := (bif !S.nright_1 a c then (9223372036854775807) else (bif !S.nright_1 a d then (9223372036854775807) else (bif !S.nright_1 b c then (9223372036854775807) else (bif !S.nright_1 b d then (9223372036854775807) else (S.Join_1 (S.Join_0 (S.Join_0 (S.Join_0 1 0 (S.Of_0 (S.nright_0 a c)) (S.Of_1 (S.nright_0 a c))) (S.Join_1 1 0 (S.Of_0 (S.nright_0 a c)) (S.Of_1 (S.nright_0 a c))) (S.Of_0 (S.nright_0 a d)) (S.Of_1 (S.nright_0 a d))) (S.Join_1 (S.Join_0 1 0 (S.Of_0 (S.nright_0 a c)) (S.Of_1 (S.nright_0 a c))) (S.Join_1 1 0 (S.Of_0 (S.nright_0 a c)) (S.Of_1 (S.nright_0 a c))) (S.Of_0 (S.nright_0 a d)) (S.Of_1 (S.nright_0 a d))) (S.Of_0 (S.nright_0 b c)) (S.Of_1 (S.nright_0 b c))) (S.Join_1 (S.Join_0 (S.Join_0 1 0 (S.Of_0 (S.nright_0 a c)) (S.Of_1 (S.nright_0 a c))) (S.Join_1 1 0 (S.Of_0 (S.nright_0 a c)) (S.Of_1 (S.nright_0 a c))) (S.Of_0 (S.nright_0 a d)) (S.Of_1 (S.nright_0 a d))) (S.Join_1 (S.Join_0 1 0 (S.Of_0 (S.nright_0 a c)) (S.Of_1 (S.nright_0 a c))) (S.Join_1 1 0 (S.Of_0 (S.nright_0 a c)) (S.Of_1 (S.nright_0 a c))) (S.Of_0 (S.nright_0 a d)) (S.Of_1 (S.nright_0 a d))) (S.Of_0 (S.nright_0 b c)) (S.Of_1 (S.nright_0 b c))) (S.Of_0 (S.nright_0 b d)) (S.Of_1 (S.nright_0 b d)))))))
def S.eright_2 (a b c d : Int) : Bool := (bif !S.nright_1 a c then (false) else (bif !S.nright_1 a d then (false) else (bif !S.nright_1 b c then (false) else (bif !S.nright_1 b d then (false) else (true)))))
theorem S.eright_sim (a b c d : Int) : Sim prog 46 [.agg [.int true .i64 a, .int true .i64 b], .agg [.int true .i64 c, .int true .i64 d], .fn (.func 80) [] []] [] (.tup [.agg [.int true .i64 (S.eright_0 a b c d), .int true .i64 (S.eright_1 a b c d)], .bool true (S.eright_2 a b c d)]) [] := by
 refine Sim.rng fun hrng => ?_
 try simp only [rngL, rngV, kLo, kHi] at hrng
 rcases Bool.eq_false_or_eq_true (!S.nright_1 a c) with h0 | h0
 ·
  exact (sim_run (S.hE S.o_emul_ok) (show run _ 46 [.agg [.int true .i64 a, .int true .i64 b], .agg [.int true .i64 c, .int true .i64 d], .fn (.func 80) [] []] [] [.br true] = some (True ∧ (!S.nright_1 a c) = true, .tup [.agg [.int false .i64 (-9223372036854775808), .int false .i64 9223372036854775807], .bool false false], []) by kernel_rfl) ⟨trivial, h0⟩).says (Says.tup (.cons (Says.agg (.cons (Says.int (by simp only [S.eright_0, h0, cond_true, cond_false])) (.cons (Says.int (by simp only [S.eright_1, h0, cond_true, cond_false])) (.nil)))) (.cons (Says.bool (by simp only [S.eright_2, h0, cond_true, cond_false])) (.nil))))
 ·
  rcases Bool.eq_false_or_eq_true (!S.nright_1 a d) with h1 | h1
  ·
   exact (sim_run (S.hE S.o_emul_ok) (show run _ 46 [.agg [.int true .i64 a, .int true .i64 b], .agg [.int true .i64 c, .int true .i64 d], .fn (.func 80) [] []] [] [.br false, .br true] = some ((True ∧ (!S.nright_1 a c) = false) ∧ (!S.nright_1 a d) = true, .tup [.agg [.int false .i64 (-9223372036854775808), .int false .i64 9223372036854775807], .bool false false], []) by kernel_rfl) ⟨⟨trivial, h0⟩, h1⟩).says (Says.tup (.cons (Says.agg (.cons (Says.int (by simp only [S.eright_0, h1, h0, cond_true, cond_false])) (.cons (Says.int (by simp only [S.eright_1, h1, h0, cond_true, cond_false])) (.nil)))) (.cons (Says.bool (by simp only [S.eright_2, h1, h0, cond_true, cond_false])) (.nil))))
  ·
   rcases Bool.eq_false_or_eq_true (!S.nright_1 b c) with h2 | h2
   ·
    exact (sim_run (S.hE S.o_emul_ok) (show run _ 46 [.agg [.int true .i64 a, .int true .i64 b], .agg [.int true .i64 c, .int true .i64 d], .fn (.func 80) [] []] [] [.br false, .br false, .br true] = some (((True ∧ (!S.nright_1 a c) = false) ∧ (!S.nright_1 a d) = false) ∧ (!S.nright_1 b c) = true, .tup [.agg [.int false .i64 (-9223372036854775808), .int false .i64 9223372036854775807], .bool false false], []) by kernel_rfl) ⟨⟨⟨trivial, h0⟩, h1⟩, h2⟩).says (Says.tup (.cons (Says.agg (.cons (Says.int (by simp only [S.eright_0, h2, h1, h0, cond_true, cond_false])) (.cons (Says.int (by simp only [S.eright_1, h2, h1, h0, cond_true, cond_false])) (.nil)))) (.cons (Says.bool (by simp only [S.eright_2, h2, h1, h0, cond_true, cond_false])) (.nil))))
   ·
    rcases Bool.eq_false_or_eq_true (!S.nright_1 b d) with h3 | h3
    ·
     exact (sim_run (S.hE S.o_emul_ok) (show run _ 46 [.agg [.int true .i64 a, .int true .i64 b], .agg [.int true .i64 c, .int true .i64 d], .fn (.func 80) [] []] [] [.br false, .br false, .br false, .br true] = some ((((True ∧ (!S.nright_1 a c) = false) ∧ (!S.nright_1 a d) = false) ∧ (!S.nright_1 b c) = false) ∧ (!S.nright_1 b d) = true, .tup [.agg [.int false .i64 (-9223372036854775808), .int false .i64 9223372036854775807], .bool false false], []) by kernel_rfl) ⟨⟨⟨⟨trivial, h0⟩, h1⟩, h2⟩, h3⟩).says (Says.tup (.cons (Says.agg (.cons (Says.int (by simp only [S.eright_0, h3, h2, h1, h0, cond_true, cond_false])) (.cons (Says.int (by simp only [S.eright_1, h3, h2, h1, h0, cond_true, cond_false])) (.nil)))) (.cons (Says.bool (by simp only [S.eright_2, h3, h2, h1, h0, cond_true, cond_false])) (.nil))))
    ·
     exact (sim_run (S.hE S.o_emul_ok) (show run _ 46 [.agg [.int true .i64 a, .int true .i64 b], .agg [.int true .i64 c, .int true .i64 d], .fn (.func 80) [] []] [] [.br false, .br false, .br false, .br false] = some ((((True ∧ (!S.nright_1 a c) = false) ∧ (!S.nright_1 a d) = false) ∧ (!S.nright_1 b c) = false) ∧ (!S.nright_1 b d) = false, .tup [.agg [.int true .i64 (S.Join_0 (S.Join_0 (S.Join_0 (S.Join_0 1 0 (S.Of_0 (S.nright_0 a c)) (S.Of_1 (S.nright_0 a c))) (S.Join_1 1 0 (S.Of_0 (S.nright_0 a c)) (S.Of_1 (S.nright_0 a c))) (S.Of_0 (S.nright_0 a d)) (S.Of_1 (S.nright_0 a d))) (S.Join_1 (S.Join_0 1 0 (S.Of_0 (S.nright_0 a c)) (S.Of_1 (S.nright_0 a c))) (S.Join_1 1 0 (S.Of_0 (S.nright_0 a c)) (S.Of_1 (S.nright_0 a c))) (S.Of_0 (S.nright_0 a d)) (S.Of_1 (S.nright_0 a d))) (S.Of_0 (S.nright_0 b c)) (S.Of_1 (S.nright_0 b c))) (S.Join_1 (S.Join_0 (S.Join_0 1 0 (S.Of_0 (S.nright_0 a c)) (S.Of_1 (S.nright_0 a c))) (S.Join_1 1 0 (S.Of_0 (S.nright_0 a c)) (S.Of_1 (S.nright_0 a c))) (S.Of_0 (S.nright_0 a d)) (S.Of_1 (S.nright_0 a d))) (S.Join_1 (S.Join_0 1 0 (S.Of_0 (S.nright_0 a c)) (S.Of_1 (S.nright_0 a c))) (S.Join_1 1 0 (S.Of_0 (S.nright_0 a c)) (S.Of_1 (S.nright_0 a c))) (S.Of_0 (S.nright_0 a d)) (S.Of_1 (S.nright_0 a d))) (S.Of_0 (S.nright_0 b c)) (S.Of_1 (S.nright_0 b c))) (S.Of_0 (S.nright_0 b d)) (S.Of_1 (S.nright_0 b d))), .int true .i64 (S.Join_1 (S.Join_0 (S.Join_0 (S.Join_0 1 0 (S.Of_0 (S.nright_0 a c)) (S.Of_1 (S.nright_0 a c))) (S.Join_1 1 0 (S.Of_0 (S.nright_0 a c)) (S.Of_1 (S.nright_0 a c))) (S.Of_0 (S.nright_0 a d)) (S.Of_1 (S.nright_0 a d))) (S.Join_1 (S.Join_0 1 0 (S.Of_0 (S.nright_0 a c)) (S.Of_1 (S.nright_0 a c))) (S.Join_1 1 0 (S.Of_0 (S.nright_0 a c)) (S.Of_1 (S.nright_0 a c))) (S.Of_0 (S.nright_0 a d)) (S.Of_1 (S.nright_0 a d))) (S.Of_0 (S.nright_0 b c)) (S.Of_1 (S.nright_0 b c))) (S.Join_1 (S.Join_0 (S.Join_0 1 0 (S.Of_0 (S.nright_0 a c)) (S.Of_1 (S.nright_0 a c))) (S.Join_1 1 0 (S.Of_0 (S.nright_0 a c)) (S.Of_1 (S.nright_0 a c))) (S.Of_0 (S.nright_0 a d)) (S.Of_1 (S.nright_0 a d))) (S.Join_1 (S.Join_0 1 0 (S.Of_0 (S.nright_0 a c)) (S.Of_1 (S.nright_0 a c))) (S.Join_1 1 0 (S.Of_0 (S.nright_0 a c)) (S.Of_1 (S.nright_0 a c))) (S.Of_0 (S.nright_0 a d)) (S.Of_1 (S.nright_0 a d))) (S.Of_0 (S.nright_0 b c)) (S.Of_1 (S.nright_0 b c))) (S.Of_0 (S.nright_0 b d)) (S.Of_1 (S.nright_0 b d)))], .bool false true], []) by kernel_rfl) ⟨⟨⟨⟨trivial, h0⟩, h1⟩, h2⟩, h3⟩).says (Says.tup (.cons (Says.agg (.cons (Says.int (by simp only [S.eright_0, h3, h2, h1, h0, cond_true, cond_false])) (.cons (Says.int (by simp only [S.eright_1, h3, h2, h1, h0, cond_true, cond_false])) (.nil)))) (.cons (Says.bool (by simp only [S.eright_2, h3, h2, h1, h0, cond_true, cond_false])) (.nil))))
def S.o_eright : Orc := orcAdd 46 (fun | [.agg [.int true .i64 a, .int true .i64 b], .agg [.int true .i64 c, .int true .i64 d], .fn (.func 80) [] []] => some (.tup [.agg [.int true .i64 (S.eright_0 a b c d), .int true .i64 (S.eright_1 a b c d)], .bool true (S.eright_2 a b c d)]) | _ => none) S.o_emul
theorem S.o_eright_ok : OrcOk prog S.o_eright := orcAdd_ok S.o_emul_ok fun a v h => by
  try dsimp only at h
  split at h
  · rename_i a b c d; cases h; exact S.eright_sim a b c d
  · cases h
def S.tb : ByteArray := { data := List.toArray (List.append (List.append [0, 1, 2, 2, 3, 3, 3, 3, 4, 4, 4, 4, 4, 4, 4, 4, 5, 5, 5, 5, 5, 5, 5, 5, 5, 5, 5, 5, 5, 5, 5, 5, 6, 6, 6, 6, 6, 6, 6, 6, 6, 6, 6, 6, 6, 6, 6, 6, 6, 6, 6, 6, 6, 6, 6, 6, 6, 6, 6, 6, 6, 6, 6, 6] [7, 7, 7, 7, 7, 7, 7, 7, 7, 7, 7, 7, 7, 7, 7, 7, 7, 7, 7, 7, 7, 7, 7, 7, 7, 7, 7, 7, 7, 7, 7, 7, 7, 7, 7, 7, 7, 7, 7, 7, 7, 7, 7, 7, 7, 7, 7, 7, 7, 7, 7, 7, 7, 7, 7, 7, 7, 7, 7, 7, 7, 7, 7, 7]) (List.append [8, 8, 8, 8, 8, 8, 8, 8, 8, 8, 8, 8, 8, 8, 8, 8, 8, 8, 8, 8, 8, 8, 8, 8, 8, 8, 8, 8, 8, 8, 8, 8, 8, 8, 8, 8, 8, 8, 8, 8, 8, 8, 8, 8, 8, 8, 8, 8, 8, 8, 8, 8, 8, 8, 8, 8, 8, 8, 8, 8, 8, 8, 8, 8] [8, 8, 8, 8, 8, 8, 8, 8, 8, 8, 8, 8, 8, 8, 8, 8, 8, 8, 8, 8, 8, 8, 8, 8, 8, 8, 8, 8, 8, 8, 8, 8, 8, 8, 8, 8, 8, 8, 8, 8, 8, 8, 8, 8, 8, 8, 8, 8, 8, 8, 8, 8, 8, 8, 8, 8, 8, 8, 8, 8, 8, 8, 8, 8])) }
def S.Len64 (a : Int) : Int := (bif decide (a ≥ 4294967296) then (bif decide (Int.fdiv a (2 ^ min (Int.toNat 32) (IntKind.bits .u64)) ≥ 65536) then (bif decide (Int.fdiv (Int.fdiv a (2 ^ min (Int.toNat 32) (IntKind.bits .u64))) (2 ^ min (Int.toNat 16) (IntKind.bits .u64)) ≥ 256) then (IntKind.wrap .i64 (IntKind.wrap .i64 (IntKind.wrap .i64 (32 + 16) + 8) + IntKind.wrap .i64 ↑(UInt8.toNat (Option.getD (Array.toList (ByteArray.data S.tb))[Int.toNat (IntKind.wrap .u8 (Int.fdiv (Int.fdiv (Int.fdiv a (2 ^ min (Int.toNat 32) (IntKind.bits .u64))) (2 ^ min (Int.toNat 16) (IntKind.bits .u64))) (2 ^ min (Int.toNat 8) (IntKind.bits .u64))))]? 0)))) else (IntKind.wrap .i64 (IntKind.wrap .i64 (32 + 16) + IntKind.wrap .i64 ↑(UInt8.toNat (Option.getD (Array.toList (ByteArray.data S.tb))[Int.toNat (IntKind.wrap .u8 (Int.fdiv (Int.fdiv a (2 ^ min (Int.toNat 32) (IntKind.bits .u64))) (2 ^ min (Int.toNat 16) (IntKind.bits .u64))))]? 0))))) else (bif decide (Int.fdiv a (2 ^ min (Int.toNat 32) (IntKind.bits .u64)) ≥ 256) then (IntKind.wrap .i64 (IntKind.wrap .i64 (32 + 8) + IntKind.wrap .i64 ↑(UInt8.toNat (Option.getD (Array.toList (ByteArray.data S.tb))[Int.toNat (IntKind.wrap .u8 (Int.fdiv (Int.fdiv a (2 ^ min (Int.toNat 32) (IntKind.bits .u64))) (2 ^ min (Int.toNat 8) (IntKind.bits .u64))))]? 0)))) else (IntKind.wrap .i64 (32 + IntKind.wrap .i64 ↑(UInt8.toNat (Option.getD (Array.toList (ByteArray.data S.tb))[Int.toNat (IntKind.wrap .u8 (Int.fdiv a (2 ^ min (Int.toNat 32) (IntKind.bits .u64))))]? 0)))))) else (bif decide (a ≥ 65536) then (bif decide (Int.fdiv a (2 ^ min (Int.toNat 16) (IntKind.bits .u64)) ≥ 256) then (IntKind.wrap .i64 (IntKind.wrap .i64 (IntKind.wrap .i64 (0 + 16) + 8) + IntKind.wrap .i64 ↑(UInt8.toNat (Option.getD (Array.toList (ByteArray.data S.tb))[Int.toNat (IntKind.wrap .u8 (Int.fdiv (Int.fdiv a (2 ^ min (Int.toNat 16) (IntKind.bits .u64))) (2 ^ min (Int.toNat 8) (IntKind.bits .u64))))]? 0)))) else (IntKind.wrap .i64 (IntKind.wrap .i64 (0 + 16) + IntKind.wrap .i64 ↑(UInt8.toNat (Option.getD (Array.toList (ByteArray.data S.tb))[Int.toNat (IntKind.wrap .u8 (Int.fdiv a (2 ^ min (Int.toNat 16) (IntKind.bits .u64))))]? 0))))) else (bif decide (a ≥ 256) then (IntKind.wrap .i64 (IntKind.wrap .i64 (0 + 8) + IntKind.wrap .i64 ↑(UInt8.toNat (Option.getD (Array.toList (ByteArray.data S.tb))[Int.toNat (IntKind.wrap .u8 (Int.fdiv a (2 ^ min (Int.toNat 8) (IntKind.bits .u64))))]? 0)))) else (IntKind.wrap .i64 (0 + IntKind.wrap .i64 ↑(UInt8.toNat (Option.getD (Array.toList (ByteArray.data S.tb))[Int.toNat (IntKind.wrap .u8 a)]? 0)))))))
theorem S.Len64_sim (a : Int) : Sim prog 79 [.int true .u64 a] [] (.int true .i64 (S.Len64 a)) [] := by
 refine Sim.rng fun hrng => ?_
 try simp only [rngL, rngV, kLo, kHi] at hrng
 rcases Bool.eq_false_or_eq_true (decide (a ≥ 4294967296)) with h0 | h0
 ·
  rcases Bool.eq_false_or_eq_true (decide (Int.fdiv a (2 ^ min (Int.toNat 32) (IntKind.bits .u64)) ≥ 65536)) with h1 | h1
  ·
   rcases Bool.eq_false_or_eq_true (decide (Int.fdiv (Int.fdiv a (2 ^ min (Int.toNat 32) (IntKind.bits .u64))) (2 ^ min (Int.toNat 16) (IntKind.bits .u64)) ≥ 256)) with h2 | h2
   ·
    rcases Bool.eq_false_or_eq_true (inRange (IntKind.wrap .u8 (Int.fdiv (Int.fdiv (Int.fdiv a (2 ^ min (Int.toNat 32) (IntKind.bits .u64))) (2 ^ min (Int.toNat 16) (IntKind.bits .u64))) (2 ^ min (Int.toNat 8) (IntKind.bits .u64)))) (ByteArray.size S.tb)) with h3 | h3
    ·
     exact (sim_run (S.hE S.o_eright_ok) (show run _ 79 [.int true .u64 a] [] [.br true, .br true, .br true, .br true] = some ((((True ∧ decide (a ≥ 4294967296) = true) ∧ decide (Int.fdiv a (2 ^ min (Int.toNat 32) (IntKind.bits .u64)) ≥ 65536) = true) ∧ decide (Int.fdiv (Int.fdiv a (2 ^ min (Int.toNat 32) (IntKind.bits .u64))) (2 ^ min (Int.toNat 16) (IntKind.bits .u64)) ≥ 256) = true) ∧ inRange (IntKind.wrap .u8 (Int.fdiv (Int.fdiv (Int.fdiv a (2 ^ min (Int.toNat 32) (IntKind.bits .u64))) (2 ^ min (Int.toNat 16) (IntKind.bits .u64))) (2 ^ min (Int.toNat 8) (IntKind.bits .u64)))) (ByteArray.size S.tb) = true, .int true .i64 (IntKind.wrap .i64 (IntKind.wrap .i64 (IntKind.wrap .i64 (32 + 16) + 8) + IntKind.wrap .i64 ↑(UInt8.toNat (Option.getD (Array.toList (ByteArray.data S.tb))[Int.toNat (IntKind.wrap .u8 (Int.fdiv (Int.fdiv (Int.fdiv a (2 ^ min (Int.toNat 32) (IntKind.bits .u64))) (2 ^ min (Int.toNat 16) (IntKind.bits .u64))) (2 ^ min (Int.toNat 8) (IntKind.bits .u64))))]? 0)))), []) by kernel_rfl) ⟨⟨⟨⟨trivial, h0⟩, h1⟩, h2⟩, h3⟩).says (Says.int (by simp only [S.Len64, h3, h2, h1, h0, cond_true, cond_false]))
    ·
     exfalso; rw [S.u8_in _ _ (of_decide_eq_true (by kernel_rfl))] at h3; cases h3
   ·
    rcases Bool.eq_false_or_eq_true (inRange (IntKind.wrap .u8 (Int.fdiv (Int.fdiv a (2 ^ min (Int.toNat 32) (IntKind.bits .u64))) (2 ^ min (Int.toNat 16) (IntKind.bits .u64)))) (ByteArray.size S.tb)) with h3 | h3
    ·
     exact (sim_run (S.hE S.o_eright_ok) (show run _ 79 [.int true .u64 a] [] [.br true, .br true, .br false, .br true] = some ((((True ∧ decide (a ≥ 4294967296) = true) ∧ decide (Int.fdiv a (2 ^ min (Int.toNat 32) (IntKind.bits .u64)) ≥ 65536) = true) ∧ decide (Int.fdiv (Int.fdiv a (2 ^ min (Int.toNat 32) (IntKind.bits .u64))) (2 ^ min (Int.toNat 16) (IntKind.bits .u64)) ≥ 256) = false) ∧ inRange (IntKind.wrap .u8 (Int.fdiv (Int.fdiv a (2 ^ min (Int.toNat 32) (IntKind.bits .u64))) (2 ^ min (Int.toNat 16) (IntKind.bits .u64)))) (ByteArray.size S.tb) = true, .int true .i64 (IntKind.wrap .i64 (IntKind.wrap .i64 (32 + 16) + IntKind.wrap .i64 ↑(UInt8.toNat (Option.getD (Array.toList (ByteArray.data S.tb))[Int.toNat (IntKind.wrap .u8 (Int.fdiv (Int.fdiv a (2 ^ min (Int.toNat 32) (IntKind.bits .u64))) (2 ^ min (Int.toNat 16) (IntKind.bits .u64))))]? 0)))), []) by kernel_rfl) ⟨⟨⟨⟨trivial, h0⟩, h1⟩, h2⟩, h3⟩).says (Says.int (by simp only [S.Len64, h3, h2, h1, h0, cond_true, cond_false]))
    ·
     exfalso; rw [S.u8_in _ _ (of_decide_eq_true (by kernel_rfl))] at h3; cases h3
  ·
   rcases Bool.eq_false_or_eq_true (decide (Int.fdiv a (2 ^ min (Int.toNat 32) (IntKind.bits .u64)) ≥ 256)) with h2 | h2
   ·
    rcases Bool.eq_false_or_eq_true (inRange (IntKind.wrap .u8 (Int.fdiv (Int.fdiv a (2 ^ min (Int.toNat 32) (IntKind.bits .u64))) (2 ^ min (Int.toNat 8) (IntKind.bits .u64)))) (ByteArray.size S.tb)) with h3 | h3
    ·
     exact (sim_run (S.hE S.o_eright_ok) (show run _ 79 [.int true .u64 a] [] [.br true, .br false, .br true, .br true] = some ((((True ∧ decide (a ≥ 4294967296) = true) ∧ decide (Int.fdiv a (2 ^ min (Int.toNat 32) (IntKind.bits .u64)) ≥ 65536) = false) ∧ decide (Int.fdiv a (2 ^ min (Int.toNat 32) (IntKind.bits .u64)) ≥ 256) = true) ∧ inRange (IntKind.wrap .u8 (Int.fdiv (Int.fdiv a (2 ^ min (Int.toNat 32) (IntKind.bits .u64))) (2 ^ min (Int.toNat 8) (IntKind.bits .u64)))) (ByteArray.size S.tb) = true, .int true .i64 (IntKind.wrap .i64 (IntKind.wrap .i64 (32 + 8) + IntKind.wrap .i64 ↑(UInt8.toNat (Option.getD (Array.toList (ByteArray.data S.tb))[Int.toNat (IntKind.wrap .u8 (Int.fdiv (Int.fdiv a (2 ^ min (Int.toNat 32) (IntKind.bits .u64))) (2 ^ min (Int.toNat 8) (IntKind.bits .u64))))]? 0)))), []) by kernel_rfl) ⟨⟨⟨⟨trivial, h0⟩, h1⟩, h2⟩, h3⟩).says (Says.int (by simp only [S.Len64, h3, h2, h1, h0, cond_true, cond_false]))
    ·
     exfalso; rw [S.u8_in _ _ (of_decide_eq_true (by kernel_rfl))] at h3; cases h3
   ·
    rcases Bool.eq_false_or_eq_true (inRange (IntKind.wrap .u8 (Int.fdiv a (2 ^ min (Int.toNat 32) (IntKind.bits .u64)))) (ByteArray.size S.tb)) with h3 | h3
    ·
     exact (sim_run (S.hE S.o_eright_ok) (show run _ 79 [.int true .u64 a] [] [.br true, .br false, .br false, .br true] = some ((((True ∧ decide (a ≥ 4294967296) = true) ∧ decide (Int.fdiv a (2 ^ min (Int.toNat 32) (IntKind.bits .u64)) ≥ 65536) = false) ∧ decide (Int.fdiv a (2 ^ min (Int.toNat 32) (IntKind.bits .u64)) ≥ 256) = false) ∧ inRange (IntKind.wrap .u8 (Int.fdiv a (2 ^ min (Int.toNat 32) (IntKind.bits .u64)))) (ByteArray.size S.tb) = true, .int true .i64 (IntKind.wrap .i64 (32 + IntKind.wrap .i64 ↑(UInt8.toNat (Option.getD (Array.toList (ByteArray.data S.tb))[Int.toNat (IntKind.wrap .u8 (Int.fdiv a (2 ^ min (Int.toNat 32) (IntKind.bits .u64))))]? 0)))), []) by kernel_rfl) ⟨⟨⟨⟨trivial, h0⟩, h1⟩, h2⟩, h3⟩).says (Says.int (by simp only [S.Len64, h3, h2, h1, h0, cond_true, cond_false]))
    ·
     exfalso; rw [S.u8_in _ _ (of_decide_eq_true (by kernel_rfl))] at h3; cases h3
 ·
  rcases Bool.eq_false_or_eq_true (decide (a ≥ 65536)) with h1 | h1
  ·
   rcases Bool.eq_false_or_eq_true (decide (Int.fdiv a (2 ^ min (Int.toNat 16) (IntKind.bits .u64)) ≥ 256)) with h2 | h2
   ·
    rcases Bool.eq_false_or_eq_true (inRange (IntKind.wrap .u8 (Int.fdiv (Int.fdiv a (2 ^ min (Int.toNat 16) (IntKind.bits .u64))) (2 ^ min (Int.toNat 8) (IntKind.bits .u64)))) (ByteArray.size S.tb)) with h3 | h3
    ·
     exact (sim_run (S.hE S.o_eright_ok) (show run _ 79 [.int true .u64 a] [] [.br false, .br true, .br true, .br true] = some ((((True ∧ decide (a ≥ 4294967296) = false) ∧ decide (a ≥ 65536) = true) ∧ decide (Int.fdiv a (2 ^ min (Int.toNat 16) (IntKind.bits .u64)) ≥ 256) = true) ∧ inRange (IntKind.wrap .u8 (Int.fdiv (Int.fdiv a (2 ^ min (Int.toNat 16) (IntKind.bits .u64))) (2 ^ min (Int.toNat 8) (IntKind.bits .u64)))) (ByteArray.size S.tb) = true, .int true .i64 (IntKind.wrap .i64 (IntKind.wrap .i64 (IntKind.wrap .i64 (0 + 16) + 8) + IntKind.wrap .i64 ↑(UInt8.toNat (Option.getD (Array.toList (ByteArray.data S.tb))[Int.toNat (IntKind.wrap .u8 (Int.fdiv (Int.fdiv a (2 ^ min (Int.toNat 16) (IntKind.bits .u64))) (2 ^ min (Int.toNat 8) (IntKind.bits .u64))))]? 0)))), []) by kernel_rfl) ⟨⟨⟨⟨trivial, h0⟩, h1⟩, h2⟩, h3⟩).says (Says.int (by simp only [S.Len64, h3, h2, h1, h0, cond_true, cond_false]))
    ·
     exfalso; rw [S.u8_in _ _ (of_decide_eq_true (by kernel_rfl))] at h3; cases h3
   ·
    rcases Bool.eq_false_or_eq_true (inRange (IntKind.wrap .u8 (Int.fdiv a (2 ^ min (Int.toNat 16) (IntKind.bits .u64)))) (ByteArray.size S.tb)) with h3 | h3
    ·
     exact (sim_run (S.hE S.o_eright_ok) (show run _ 79 [.int true .u64 a] [] [.br false, .br true, .br false, .br true] = some ((((True ∧ decide (a ≥ 4294967296) = false) ∧ decide (a ≥ 65536) = true) ∧ decide (Int.fdiv a (2 ^ min (Int.toNat 16) (IntKind.bits .u64)) ≥ 256) = false) ∧ inRange (IntKind.wrap .u8 (Int.fdiv a (2 ^ min (Int.toNat 16) (IntKind.bits .u64)))) (ByteArray.size S.tb) = true, .int true .i64 (IntKind.wrap .i64 (IntKind.wrap .i64 (0 + 16) + IntKind.wrap .i64 ↑(UInt8.toNat (Option.getD (Array.toList (ByteArray.data S.tb))[Int.toNat (IntKind.wrap .u8 (Int.fdiv a (2 ^ min (Int.toNat 16) (IntKind.bits .u64))))]? 0)))), []) by kernel_rfl) ⟨⟨⟨⟨trivial, h0⟩, h1⟩, h2⟩, h3⟩).says (Says.int (by simp only [S.Len64, h3, h2, h1, h0, cond_true, cond_false]))
    ·
     exfalso; rw [S.u8_in _ _ (of_decide_eq_true (by kernel_rfl))] at h3; cases h3
  ·
   rcases Bool.eq_false_or_eq_true (decide (a ≥ 256)) with h2 | h2
   ·
    rcases Bool.eq_false_or_eq_true (inRange (IntKind.wrap .u8 (Int.fdiv a (2 ^ min (Int.toNat 8) (IntKind.bits .u64)))) (ByteArray.size S.tb)) with h3 | h3
    ·
     exact (sim_run (S.hE S.o_eright_ok) (show run _ 79 [.int true .u64 a] [] [.br false, .br false, .br true, .br true] = some ((((True ∧ decide (a ≥ 4294967296) = false) ∧ decide (a ≥ 65536) = false) ∧ decide (a ≥ 256) = true) ∧ inRange (IntKind.wrap .u8 (Int.fdiv a (2 ^ min (Int.toNat 8) (IntKind.bits .u64)))) (ByteArray.size S.tb) = true, .int true .i64 (IntKind.wrap .i64 (IntKind.wrap .i64 (0 + 8) + IntKind.wrap .i64 ↑(UInt8.toNat (Option.getD (Array.toList (ByteArray.data S.tb))[Int.toNat (IntKind.wrap .u8 (Int.fdiv a (2 ^ min (Int.toNat 8) (IntKind.bits .u64))))]? 0)))), []) by kernel_rfl) ⟨⟨⟨⟨trivial, h0⟩, h1⟩, h2⟩, h3⟩).says (Says.int (by simp only [S.Len64, h3, h2, h1, h0, cond_true, cond_false]))
    ·
     exfalso; rw [S.u8_in _ _ (of_decide_eq_true (by kernel_rfl))] at h3; cases h3
   ·
    rcases Bool.eq_false_or_eq_true (inRange (IntKind.wrap .u8 a) (ByteArray.size S.tb)) with h3 | h3
    ·
     exact (sim_run (S.hE S.o_eright_ok) (show run _ 79 [.int true .u64 a] [] [.br false, .br false, .br false, .br true] = some ((((True ∧ decide (a ≥ 4294967296) = false) ∧ decide (a ≥ 65536) = false) ∧ decide (a ≥ 256) = false) ∧ inRange (IntKind.wrap .u8 a) (ByteArray.size S.tb) = true, .int true .i64 (IntKind.wrap .i64 (0 + IntKind.wrap .i64 ↑(UInt8.toNat (Option.getD (Array.toList (ByteArray.data S.tb))[Int.toNat (IntKind.wrap .u8 a)]? 0)))), []) by kernel_rfl) ⟨⟨⟨⟨trivial, h0⟩, h1⟩, h2⟩, h3⟩).says (Says.int (by simp only [S.Len64, h3, h2, h1, h0, cond_true, cond_false]))
    ·
     exfalso; rw [S.u8_in _ _ (of_decide_eq_true (by kernel_rfl))] at h3; cases h3
def S.o_Len64 : Orc := orcAdd 79 (fun | [.int true .u64 a] => some (.int true .i64 (S.Len64 a)) | _ => none) S.o_eright
theorem S.o_Len64_ok : OrcOk prog S.o_Len64 := orcAdd_ok S.o_eright_ok fun a v h => by
  try dsimp only at h
  split at h
  · rename_i a; cases h; exact S.Len64_sim a
  · cases h
def S.rest_0 (a b c d : Int) : Int := (bif (if false = true then if S.size d < S.size c then S.size d else S.size c else if S.size d > S.size c then S.size d else S.size c) == 0 then (1) else (if false = true then if IntKind.wrap .i64 (0 - IntKind.wrap .i64 (IntKind.wrap .u64 ((if false = true then if S.size d < S.size c then S.size d else S.size c else if S.size d > S.size c then S.size d else S.size c) - 1))) < if true = true then if 0 < a then 0 else a else if 0 > a then 0 else a then IntKind.wrap .i64 (0 - IntKind.wrap .i64 (IntKind.wrap .u64 ((if false = true then if S.size d < S.size c then S.size d else S.size c else if S.size d > S.size c then S.size d else S.size c) - 1))) else if true = true then if 0 < a then 0 else a else if 0 > a then 0 else a else if IntKind.wrap .i64 (0 - IntKind.wrap .i64 (IntKind.wrap .u64 ((if false = true then if S.size d < S.size c then S.size d else S.size c else if S.size d > S.size c then S.size d else S.size c) - 1))) > if true = true then if 0 < a then 0 else a else if 0 > a then 0 else a then IntKind.wrap .i64 (0 - IntKind.wrap .i64 (IntKind.wrap .u64 ((if false = true then if S.size d < S.size c then S.size d else S.size c else if S.size d > S.size c then S.size d else S.size c) - 1))) else if true = true then if 0 < a then 0 else a else if 0 > a then 0 else a))
def S.rest_1 (a b c d : Int) : Int := (bif (if false = true then if S.size d < S.size c then S.size d else S.size c else if S.size d > S.size c then S.size d else S.size c) == 0 then (0) else (if true = true then if IntKind.wrap .i64 (IntKind.wrap .u64 ((if false = true then if S.size d < S.size c then S.size d else S.size c else if S.size d > S.size c then S.size d else S.size c) - 1)) < if false = true then if 0 < b then 0 else b else if 0 > b then 0 else b then IntKind.wrap .i64 (IntKind.wrap .u64 ((if false = true then if S.size d < S.size c then S.size d else S.size c else if S.size d > S.size c then S.size d else S.size c) - 1)) else if false = true then if 0 < b then 0 else b else if 0 > b then 0 else b else if IntKind.wrap .i64 (IntKind.wrap .u64 ((if false = true then if S.size d < S.size c then S.size d else S.size c else if S.size d > S.size c then S.size d else S.size c) - 1)) > if false = true then if 0 < b then 0 else b else if 0 > b then 0 else b then IntKind.wrap .i64 (IntKind.wrap .u64 ((if false = true then if S.size d < S.size c then S.size d else S.size c else if S.size d > S.size c then S.size d else S.size c) - 1)) else if false = true then if 0 < b then 0 else b else if 0 > b then 0 else b))
theorem S.rest_sim (a b c d : Int) : Sim prog 51 [.agg [.int true .i64 a, .int true .i64 b], .agg [.int true .i64 c, .int true .i64 d]] [] (.agg [.int true .i64 (S.rest_0 a b c d), .int true .i64 (S.rest_1 a b c d)]) [] := by
 refine Sim.rng fun hrng => ?_
 try simp only [rngL, rngV, kLo, kHi] at hrng
 rcases Bool.eq_false_or_eq_true ((if false = true then if S.size d < S.size c then S.size d else S.size c else if S.size d > S.size c then S.size d else S.size c) == 0) with h0 | h0
 ·
  exact (sim_run (S.hE S.o_Len64_ok) (show run _ 51 [.agg [.int true .i64 a, .int true .i64 b], .agg [.int true .i64 c, .int true .i64 d]] [] [.br true] = some (True ∧ ((if false = true then if S.size d < S.size c then S.size d else S.size c else if S.size d > S.size c then S.size d else S.size c) == 0) = true, .agg [.int false .i64 1, .int false .i64 0], []) by kernel_rfl) ⟨trivial, h0⟩).says (Says.agg (.cons (Says.int (by simp only [S.rest_0, h0, cond_true, cond_false])) (.cons (Says.int (by simp only [S.rest_1, h0, cond_true, cond_false])) (.nil))))
 ·
  exact (sim_run (S.hE S.o_Len64_ok) (show run _ 51 [.agg [.int true .i64 a, .int true .i64 b], .agg [.int true .i64 c, .int true .i64 d]] [] [.br false] = some (True ∧ ((if false = true then if S.size d < S.size c then S.size d else S.size c else if S.size d > S.size c then S.size d else S.size c) == 0) = false, .agg [.int true .i64 (if false = true then if IntKind.wrap .i64 (0 - IntKind.wrap .i64 (IntKind.wrap .u64 ((if false = true then if S.size d < S.size c then S.size d else S.size c else if S.size d > S.size c then S.size d else S.size c) - 1))) < if true = true then if 0 < a then 0 else a else if 0 > a then 0 else a then IntKind.wrap .i64 (0 - IntKind.wrap .i64 (IntKind.wrap .u64 ((if false = true then if S.size d < S.size c then S.size d else S.size c else if S.size d > S.size c then S.size d else S.size c) - 1))) else if true = true then if 0 < a then 0 else a else if 0 > a then 0 else a else if IntKind.wrap .i64 (0 - IntKind.wrap .i64 (IntKind.wrap .u64 ((if false = true then if S.size d < S.size c then S.size d else S.size c else if S.size d > S.size c then S.size d else S.size c) - 1))) > if true = true then if 0 < a then 0 else a else if 0 > a then 0 else a then IntKind.wrap .i64 (0 - IntKind.wrap .i64 (IntKind.wrap .u64 ((if false = true then if S.size d < S.size c then S.size d else S.size c else if S.size d > S.size c then S.size d else S.size c) - 1))) else if true = true then if 0 < a then 0 else a else if 0 > a then 0 else a), .int true .i64 (if true = true then if IntKind.wrap .i64 (IntKind.wrap .u64 ((if false = true then if S.size d < S.size c then S.size d else S.size c else if S.size d > S.size c then S.size d else S.size c) - 1)) < if false = true then if 0 < b then 0 else b else if 0 > b then 0 else b then IntKind.wrap .i64 (IntKind.wrap .u64 ((if false = true then if S.size d < S.size c then S.size d else S.size c else if S.size d > S.size c then S.size d else S.size c) - 1)) else if false = true then if 0 < b then 0 else b else if 0 > b then 0 else b else if IntKind.wrap .i64 (IntKind.wrap .u64 ((if false = true then if S.size d < S.size c then S.size d else S.size c else if S.size d > S.size c then S.size d else S.size c) - 1)) > if false = true then if 0 < b then 0 else b else if 0 > b then 0 else b then IntKind.wrap .i64 (IntKind.wrap .u64 ((if false = true then if S.size d < S.size c then S.size d else S.size c else if S.size d > S.size c then S.size d else S.size c) - 1)) else if false = true then if 0 < b then 0 else b else if 0 > b then 0 else b)], []) by kernel_rfl) ⟨trivial, h0⟩).says (Says.agg (.cons (Says.int (by simp only [S.rest_0, h0, cond_true, cond_false])) (.cons (Says.int (by simp only [S.rest_1, h0, cond_true, cond_false])) (.nil))))
def S.o_rest : Orc := orcAdd 51 (fun | [.agg [.int true .i64 a, .int true .i64 b], .agg [.int true .i64 c, .int true .i64 d]] => some (.agg [.int true .i64 (S.rest_0 a b c d), .int true .i64 (S.rest_1 a b c d)]) | _ => none) S.o_Len64
theorem S.o_rest_ok : OrcOk prog S.o_rest := orcAdd_ok S.o_Len64_ok fun a v h => by
  try dsimp only at h
  split at h
  · rename_i a b c d; cases h; exact S.rest_sim a b c d
  · cases h
def S.low_0 (a b c d : Int) : Int := (bif decide (a < 0) then (bif decide (c < 0) then (-9223372036854775808) else (0)) else (0))
def S.low_1 (a b c d : Int) : Int := (bif decide (a < 0) then (bif decide (c < 0) then (9223372036854775807) else (d)) else (bif decide (c < 0) then (b) else (if true = true then if d < b then d else b else if d > b then d else b)))
theorem S.low_sim (a b c d : Int) : Sim prog 52 [.agg [.int true .i64 a, .int true .i64 b], .agg [.int true .i64 c, .int true .i64 d]] [] (.agg [.int true .i64 (S.low_0 a b c d), .int true .i64 (S.low_1 a b c d)]) [] := by
 refine Sim.rng fun hrng => ?_
 try simp only [rngL, rngV, kLo, kHi] at hrng
 rcases Bool.eq_false_or_eq_true (decide (a < 0)) with h0 | h0
 ·
  rcases Bool.eq_false_or_eq_true (decide (c < 0)) with h1 | h1
  ·
   exact (sim_run (S.hE S.o_rest_ok) (show run _ 52 [.agg [.int true .i64 a, .int true .i64 b], .agg [.int true .i64 c, .int true .i64 d]] [] [.br true, .br true] = some ((True ∧ decide (a < 0) = true) ∧ decide (c < 0) = true, .agg [.int false .i64 (-9223372036854775808), .int false .i64 9223372036854775807], []) by kernel_rfl) ⟨⟨trivial, h0⟩, h1⟩).says (Says.agg (.cons (Says.int (by simp only [S.low_0, h1, h0, cond_true, cond_false])) (.cons (Says.int (by simp only [S.low_1, h1, h0, cond_true, cond_false])) (.nil))))
  ·
   exact (sim_run (S.hE S.o_rest_ok) (show run _ 52 [.agg [.int true .i64 a, .int true .i64 b], .agg [.int true .i64 c, .int true .i64 d]] [] [.br true, .br false, .br true] = some (((True ∧ decide (a < 0) = true) ∧ decide (c < 0) = false) ∧ decide (a < 0) = true, .agg [.int false .i64 0, .int true .i64 d], []) by kernel_rfl) ⟨⟨⟨trivial, h0⟩, h1⟩, h0⟩).says (Says.agg (.cons (Says.int (by simp only [S.low_0, h1, h0, cond_true, cond_false])) (.cons (Says.int (by simp only [S.low_1, h1, h0, cond_true, cond_false])) (.nil))))
 ·
  rcases Bool.eq_false_or_eq_true (decide (c < 0)) with h1 | h1
  ·
   exact (sim_run (S.hE S.o_rest_ok) (show run _ 52 [.agg [.int true .i64 a, .int true .i64 b], .agg [.int true .i64 c, .int true .i64 d]] [] [.br false, .br false, .br true] = some (((True ∧ decide (a < 0) = false) ∧ decide (a < 0) = false) ∧ decide (c < 0) = true, .agg [.int false .i64 0, .int true .i64 b], []) by kernel_rfl) ⟨⟨⟨trivial, h0⟩, h0⟩, h1⟩).says (Says.agg (.cons (Says.int (by simp only [S.low_0, h1, h0, cond_true, cond_false])) (.cons (Says.int (by simp only [S.low_1, h1, h0, cond_true, cond_false])) (.nil))))
  ·
   exact (sim_run (S.hE S.o_rest_ok) (show run _ 52 [.agg [.int true .i64 a, .int true .i64 b], .agg [.int true .i64 c, .int true .i64 d]] [] [.br false, .br false, .br false] = some (((True ∧ decide (a < 0) = false) ∧ decide (a < 0) = false) ∧ decide (c < 0) = false, .agg [.int false .i64 0, .int true .i64 (if true = true then if d < b then d else b else if d > b then d else b)], []) by kernel_rfl) ⟨⟨⟨trivial, h0⟩, h0⟩, h1⟩).says (Says.agg (.cons (Says.int (by simp only [S.low_0, h1, h0, cond_true, cond_false])) (.cons (Says.int (by simp only [S.low_1, h1, h0, cond_true, cond_false])) (.nil))))
def S.o_low : Orc := orcAdd 52 (fun | [.agg [.int true .i64 a, .int true .i64 b], .agg [.int true .i64 c, .int true .i64 d]] => some (.agg [.int true .i64 (S.low_0 a b c d), .int true .i64 (S.low_1 a b c d)]) | _ => none) S.o_rest
theorem S.o_low_ok : OrcOk prog S.o_low := orcAdd_ok S.o_rest_ok fun a v h => by
  try dsimp only at h
  split at h
  · rename_i a b c d; cases h; exact S.low_sim a b c d
  · cases h
def S.wide_0 (a b c d : Int) : Int := (bif decide (a < 0) then (-9223372036854775808) else (bif decide (c < 0) then (-9223372036854775808) else (0)))
def S.wide_1 (a b c d : Int) : Int := (bif decide (a < 0) then (9223372036854775807) else (bif decide (c < 0) then (9223372036854775807) else (IntKind.wrap .i64 (IntKind.wrap .u64 (IntKind.wrap .u64 (1 * 2 ^ min (Int.toNat (S.Len64 (IntKind.wrap .u64 (IntKind.wrap .i64 ↑(BitVec.toNat (BitVec.ofInt (IntKind.bits .i64) b ||| BitVec.ofInt (IntKind.bits .i64) d)))))) (IntKind.bits .u64)) - 1)))))
theorem S.Len64_nonneg (a : Int) : decide (0 ≤ S.Len64 a) = true := by
  unfold S.Len64
  simp only [Bool.cond_eq_ite]
  (repeat' split) <;> exact decide_eq_true (S.len_nn _ _ (of_decide_eq_true (by kernel_rfl)) (of_decide_eq_true (by kernel_rfl)))
theorem S.wide_sim (a b c d : Int) : Sim prog 53 [.agg [.int true .i64 a, .int true .i64 b], .agg [.int true .i64 c, .int true .i64 d]] [] (.agg [.int true .i64 (S.wide_0 a b c d), .int true .i64 (S.wide_1 a b c d)]) [] := by
 refine Sim.rng fun hrng => ?_
 try simp only [rngL, rngV, kLo, kHi] at hrng
 rcases Bool.eq_false_or_eq_true (decide (a < 0)) with h0 | h0
 ·
  exact (sim_run (S.hE S.o_low_ok) (show run _ 53 [.agg [.int true .i64 a, .int true .i64 b], .agg [.int true .i64 c, .int true .i64 d]] [] [.br true] = some (True ∧ decide (a < 0) = true, .agg [.int false .i64 (-9223372036854775808), .int false .i64 9223372036854775807], []) by kernel_rfl) ⟨trivial, h0⟩).says (Says.agg (.cons (Says.int (by simp only [S.wide_0, h0, cond_true, cond_false])) (.cons (Says.int (by simp only [S.wide_1, h0, cond_true, cond_false])) (.nil))))
 ·
  rcases Bool.eq_false_or_eq_true (decide (c < 0)) with h1 | h1
  ·
   exact (sim_run (S.hE S.o_low_ok) (show run _ 53 [.agg [.int true .i64 a, .int true .i64 b], .agg [.int true .i64 c, .int true .i64 d]] [] [.br false, .br true] = some ((True ∧ decide (a < 0) = false) ∧ decide (c < 0) = true, .agg [.int false .i64 (-9223372036854775808), .int false .i64 9223372036854775807], []) by kernel_rfl) ⟨⟨trivial, h0⟩, h1⟩).says (Says.agg (.cons (Says.int (by simp only [S.wide_0, h1, h0, cond_true, cond_false])) (.cons (Says.int (by simp only [S.wide_1, h1, h0, cond_true, cond_false])) (.nil))))
  ·
   rcases Bool.eq_false_or_eq_true (decide (0 ≤ S.Len64 (IntKind.wrap .u64 (IntKind.wrap .i64 ↑(BitVec.toNat (BitVec.ofInt (IntKind.bits .i64) b ||| BitVec.ofInt (IntKind.bits .i64) d)))))) with h2 | h2
   ·
    exact (sim_run (S.hE S.o_low_ok) (show run _ 53 [.agg [.int true .i64 a, .int true .i64 b], .agg [.int true .i64 c, .int true .i64 d]] [] [.br false, .br false, .br true] = some (((True ∧ decide (a < 0) = false) ∧ decide (c < 0) = false) ∧ decide (0 ≤ S.Len64 (IntKind.wrap .u64 (IntKind.wrap .i64 ↑(BitVec.toNat (BitVec.ofInt (IntKind.bits .i64) b ||| BitVec.ofInt (IntKind.bits .i64) d))))) = true, .agg [.int false .i64 0, .int true .i64 (IntKind.wrap .i64 (IntKind.wrap .u64 (IntKind.wrap .u64 (1 * 2 ^ min (Int.toNat (S.Len64 (IntKind.wrap .u64 (IntKind.wrap .i64 ↑(BitVec.toNat (BitVec.ofInt (IntKind.bits .i64) b ||| BitVec.ofInt (IntKind.bits .i64) d)))))) (IntKind.bits .u64)) - 1)))], []) by kernel_rfl) ⟨⟨⟨trivial, h0⟩, h1⟩, h2⟩).says (Says.agg (.cons (Says.int (by simp only [S.wide_0, h2, h1, h0, cond_true, cond_false])) (.cons (Says.int (by simp only [S.wide_1, h2, h1, h0, cond_true, cond_false])) (.nil))))
   ·
    rw [S.Len64_nonneg] at h2; cases h2
def S.o_wide : Orc := orcAdd 53 (fun | [.agg [.int true .i64 a, .int true .i64 b], .agg [.int true .i64 c, .int true .i64 d]] => some (.agg [.int true .i64 (S.wide_0 a b c d), .int true .i64 (S.wide_1 a b c d)]) | _ => none) S.o_low
theorem S.o_wide_ok : OrcOk prog S.o_wide := orcAdd_ok S.o_low_ok fun a v h => by
  try dsimp only at h
  split at h
  · rename_i a b c d; cases h; exact S.wide_sim a b c d
  · cases h
def S.clt_0 (a b c d : Int) : Int := (S.told_0 (decide (b ≥ c)) (decide (a < d)))
def S.clt_1 (a b c d : Int) : Int := (S.told_1 (decide (b ≥ c)) (decide (a < d)))
theorem S.clt_sim (a b c d : Int) : Sim prog 56 [.str true ⟨#[60]⟩, .agg [.int true .i64 a, .int true .i64 b], .agg [.int true .i64 c, .int true .i64 d]] [] (.agg [.int true .i64 (S.clt_0 a b c d), .int true .i64 (S.clt_1 a b c d)]) [] := by
 refine Sim.rng fun hrng => ?_
 try simp only [rngL, rngV, kLo, kHi] at hrng
 refine Sim.args (args' := [.str false ⟨#[60]⟩, .agg [.int true .i64 a, .int true .i64 b], .agg [.int true .i64 c, .int true .i64 d]]) ?_ (.cons (Says.str rfl) (.cons (Says.refl _) (.cons (Says.refl _) (.nil))))
 exact (sim_run (S.hE S.o_wide_ok) (show run _ 56 [.str false ⟨#[60]⟩, .agg [.int true .i64 a, .int true .i64 b], .agg [.int true .i64 c, .int true .i64 d]] [] [] = some (True, .agg [.int true .i64 (S.told_0 (decide (b ≥ c)) (decide (a < d))), .int true .i64 (S.told_1 (decide (b ≥ c)) (decide (a < d)))], []) by kernel_rfl) trivial).says (Says.agg (.cons (Says.int (rfl)) (.cons (Says.int (rfl)) (.nil))))
def S.o_clt : Orc := orcAdd 56 (fun | [.str true t0, .agg [.int true .i64 a, .int true .i64 b], .agg [.int true .i64 c, .int true .i64 d]] => (match t0.data.toList == [60] with | true => some (.agg [.int true .i64 (S.clt_0 a b c d), .int true .i64 (S.clt_1 a b c d)]) | false => none) | _ => none) S.o_wide
theorem S.o_clt_ok : OrcOk prog S.o_clt := orcAdd_ok S.o_wide_ok fun a v h => by
  try dsimp only at h
  split at h
  · rename_i t0 a b c d
    split at h
    · rename_i ht; cases h; have ht0 := ht; obtain rfl := ba_eq ht0; exact S.clt_sim a b c d
    · cases h
  · cases h
def S.cle_0 (a b c d : Int) : Int := (S.told_0 (decide (b > c)) (decide (a ≤ d)))
def S.cle_1 (a b c d : Int) : Int := (S.told_1 (decide (b > c)) (decide (a ≤ d)))
theorem S.cle_sim (a b c d : Int) : Sim prog 56 [.str true ⟨#[60, 61]⟩, .agg [.int true .i64 a, .int true .i64 b], .agg [.int true .i64 c, .int true .i64 d]] [] (.agg [.int true .i64 (S.cle_0 a b c d), .int true .i64 (S.cle_1 a b c d)]) [] := by
 refine Sim.rng fun hrng => ?_
 try simp only [rngL, rngV, kLo, kHi] at hrng
 refine Sim.args (args' := [.str false ⟨#[60, 61]⟩, .agg [.int true .i64 a, .int true .i64 b], .agg [.int true .i64 c, .int true .i64 d]]) ?_ (.cons (Says.str rfl) (.cons (Says.refl _) (.cons (Says.refl _) (.nil))))
 exact (sim_run (S.hE S.o_clt_ok) (show run _ 56 [.str false ⟨#[60, 61]⟩, .agg [.int true .i64 a, .int true .i64 b], .agg [.int true .i64 c, .int true .i64 d]] [] [] = some (True, .agg [.int true .i64 (S.told_0 (decide (b > c)) (decide (a ≤ d))), .int true .i64 (S.told_1 (decide (b > c)) (decide (a ≤ d)))], []) by kernel_rfl) trivial).says (Says.agg (.cons (Says.int (rfl)) (.cons (Says.int (rfl)) (.nil))))
def S.o_cle : Orc := orcAdd 56 (fun | [.str true t0, .agg [.int true .i64 a, .int true .i64 b], .agg [.int true .i64 c, .int true .i64 d]] => (match t0.data.toList == [60, 61] with | true => some (.agg [.int true .i64 (S.cle_0 a b c d), .int true .i64 (S.cle_1 a b c d)]) | false => none) | _ => none) S.o_clt
theorem S.o_cle_ok : OrcOk prog S.o_cle := orcAdd_ok S.o_clt_ok fun a v h => by
  try dsimp only at h
  split at h
  · rename_i t0 a b c d
    split at h
    · rename_i ht; cases h; have ht0 := ht; obtain rfl := ba_eq ht0; exact S.cle_sim a b c d
    · cases h
  · cases h
def S.ceq_0 (a b c d : Int) : Int := (bif !(a == c && (b == d && true)) then (S.told_0 true !S.Empty (S.Meet_0 a b c d) (S.Meet_1 a b c d)) else (S.told_0 (a != b) !S.Empty (S.Meet_0 a b c d) (S.Meet_1 a b c d)))
def S.ceq_1 (a b c d : Int) : Int := (bif !(a == c && (b == d && true)) then (S.told_1 true !S.Empty (S.Meet_0 a b c d) (S.Meet_1 a b c d)) else (S.told_1 (a != b) !S.Empty (S.Meet_0 a b c d) (S.Meet_1 a b c d)))
theorem S.ceq_sim (a b c d : Int) : Sim prog 56 [.str true ⟨#[61, 61]⟩, .agg [.int true .i64 a, .int true .i64 b], .agg [.int true .i64 c, .int true .i64 d]] [] (.agg [.int true .i64 (S.ceq_0 a b c d), .int true .i64 (S.ceq_1 a b c d)]) [] := by
 refine Sim.rng fun hrng => ?_
 try simp only [rngL, rngV, kLo, kHi] at hrng
 refine Sim.args (args' := [.str false ⟨#[61, 61]⟩, .agg [.int true .i64 a, .int true .i64 b], .agg [.int true .i64 c, .int true .i64 d]]) ?_ (.cons (Says.str rfl) (.cons (Says.refl _) (.cons (Says.refl _) (.nil))))
 rcases Bool.eq_false_or_eq_true (!(a == c && (b == d && true))) with h0 | h0
 ·
  exact (sim_run (S.hE S.o_cle_ok) (show run _ 56 [.str false ⟨#[61, 61]⟩, .agg [.int true .i64 a, .int true .i64 b], .agg [.int true .i64 c, .int true .i64 d]] [] [.br true] = some (True ∧ (!(a == c && (b == d && true))) = true, .agg [.int true .i64 (S.told_0 true !S.Empty (S.Meet_0 a b c d) (S.Meet_1 a b c d)), .int true .i64 (S.told_1 true !S.Empty (S.Meet_0 a b c d) (S.Meet_1 a b c d))], []) by kernel_rfl) ⟨trivial, h0⟩).says (Says.agg (.cons (Says.int (by simp only [S.ceq_0, h0, cond_true, cond_false])) (.cons (Says.int (by simp only [S.ceq_1, h0, cond_true, cond_false])) (.nil))))
 ·
  exact (sim_run (S.hE S.o_cle_ok) (show run _ 56 [.str false ⟨#[61, 61]⟩, .agg [.int true .i64 a, .int true .i64 b], .agg [.int true .i64 c, .int true .i64 d]] [] [.br false] = some (True ∧ (!(a == c && (b == d && true))) = false, .agg [.int true .i64 (S.told_0 (a != b) !S.Empty (S.Meet_0 a b c d) (S.Meet_1 a b c d)), .int true .i64 (S.told_1 (a != b) !S.Empty (S.Meet_0 a b c d) (S.Meet_1 a b c d))], []) by kernel_rfl) ⟨trivial, h0⟩).says (Says.agg (.cons (Says.int (by simp only [S.ceq_0, h0, cond_true, cond_false])) (.cons (Says.int (by simp only [S.ceq_1, h0, cond_true, cond_false])) (.nil))))
def S.o_ceq : Orc := orcAdd 56 (fun | [.str true t0, .agg [.int true .i64 a, .int true .i64 b], .agg [.int true .i64 c, .int true .i64 d]] => (match t0.data.toList == [61, 61] with | true => some (.agg [.int true .i64 (S.ceq_0 a b c d), .int true .i64 (S.ceq_1 a b c d)]) | false => none) | _ => none) S.o_cle
theorem S.o_ceq_ok : OrcOk prog S.o_ceq := orcAdd_ok S.o_cle_ok fun a v h => by
  try dsimp only at h
  split at h
  · rename_i t0 a b c d
    split at h
    · rename_i ht; cases h; have ht0 := ht; obtain rfl := ba_eq ht0; exact S.ceq_sim a b c d
    · cases h
  · cases h
def S.cne_0 (a b c d : Int) : Int := (bif !(a == c && (b == d && true)) then (S.told_0 (!S.Empty (S.Meet_0 a b c d) (S.Meet_1 a b c d)) true) else (S.told_0 (!S.Empty (S.Meet_0 a b c d) (S.Meet_1 a b c d)) (a != b)))
def S.cne_1 (a b c d : Int) : Int := (bif !(a == c && (b == d && true)) then (S.told_1 (!S.Empty (S.Meet_0 a b c d) (S.Meet_1 a b c d)) true) else (S.told_1 (!S.Empty (S.Meet_0 a b c d) (S.Meet_1 a b c d)) (a != b)))
theorem S.cne_sim (a b c d : Int) : Sim prog 56 [.str true ⟨#[33, 61]⟩, .agg [.int true .i64 a, .int true .i64 b], .agg [.int true .i64 c, .int true .i64 d]] [] (.agg [.int true .i64 (S.cne_0 a b c d), .int true .i64 (S.cne_1 a b c d)]) [] := by
 refine Sim.rng fun hrng => ?_
 try simp only [rngL, rngV, kLo, kHi] at hrng
 refine Sim.args (args' := [.str false ⟨#[33, 61]⟩, .agg [.int true .i64 a, .int true .i64 b], .agg [.int true .i64 c, .int true .i64 d]]) ?_ (.cons (Says.str rfl) (.cons (Says.refl _) (.cons (Says.refl _) (.nil))))
 rcases Bool.eq_false_or_eq_true (!(a == c && (b == d && true))) with h0 | h0
 ·
  exact (sim_run (S.hE S.o_ceq_ok) (show run _ 56 [.str false ⟨#[33, 61]⟩, .agg [.int true .i64 a, .int true .i64 b], .agg [.int true .i64 c, .int true .i64 d]] [] [.br true] = some (True ∧ (!(a == c && (b == d && true))) = true, .agg [.int true .i64 (S.told_0 (!S.Empty (S.Meet_0 a b c d) (S.Meet_1 a b c d)) true), .int true .i64 (S.told_1 (!S.Empty (S.Meet_0 a b c d) (S.Meet_1 a b c d)) true)], []) by kernel_rfl) ⟨trivial, h0⟩).says (Says.agg (.cons (Says.int (by simp only [S.cne_0, h0, cond_true, cond_false])) (.cons (Says.int (by simp only [S.cne_1, h0, cond_true, cond_false])) (.nil))))
 ·
  exact (sim_run (S.hE S.o_ceq_ok) (show run _ 56 [.str false ⟨#[33, 61]⟩, .agg [.int true .i64 a, .int true .i64 b], .agg [.int true .i64 c, .int true .i64 d]] [] [.br false] = some (True ∧ (!(a == c && (b == d && true))) = false, .agg [.int true .i64 (S.told_0 (!S.Empty (S.Meet_0 a b c d) (S.Meet_1 a b c d)) (a != b)), .int true .i64 (S.told_1 (!S.Empty (S.Meet_0 a b c d) (S.Meet_1 a b c d)) (a != b))], []) by kernel_rfl) ⟨trivial, h0⟩).says (Says.agg (.cons (Says.int (by simp only [S.cne_0, h0, cond_true, cond_false])) (.cons (Says.int (by simp only [S.cne_1, h0, cond_true, cond_false])) (.nil))))
def S.o_cne : Orc := orcAdd 56 (fun | [.str true t0, .agg [.int true .i64 a, .int true .i64 b], .agg [.int true .i64 c, .int true .i64 d]] => (match t0.data.toList == [33, 61] with | true => some (.agg [.int true .i64 (S.cne_0 a b c d), .int true .i64 (S.cne_1 a b c d)]) | false => none) | _ => none) S.o_ceq
theorem S.o_cne_ok : OrcOk prog S.o_cne := orcAdd_ok S.o_ceq_ok fun a v h => by
  try dsimp only at h
  split at h
  · rename_i t0 a b c d
    split at h
    · rename_i ht; cases h; have ht0 := ht; obtain rfl := ba_eq ht0; exact S.cne_sim a b c d
    · cases h
  · cases h
def S.cgt_0 (a b c d : Int) : Int := (S.clt_0 c d a b)
def S.cgt_1 (a b c d : Int) : Int := (S.clt_1 c d a b)
theorem S.cgt_sim (a b c d : Int) : Sim prog 56 [.str true ⟨#[62]⟩, .agg [.int true .i64 a, .int true .i64 b], .agg [.int true .i64 c, .int true .i64 d]] [] (.agg [.int true .i64 (S.cgt_0 a b c d), .int true .i64 (S.cgt_1 a b c d)]) [] := by
 refine Sim.rng fun hrng => ?_
 try simp only [rngL, rngV, kLo, kHi] at hrng
 refine Sim.args (args' := [.str false ⟨#[62]⟩, .agg [.int true .i64 a, .int true .i64 b], .agg [.int true .i64 c, .int true .i64 d]]) ?_ (.cons (Says.str rfl) (.cons (Says.refl _) (.cons (Says.refl _) (.nil))))
 exact (sim_run (S.hE S.o_cne_ok) (show run _ 56 [.str false ⟨#[62]⟩, .agg [.int true .i64 a, .int true .i64 b], .agg [.int true .i64 c, .int true .i64 d]] [] [] = some (True, .agg [.int true .i64 (S.clt_0 c d a b), .int true .i64 (S.clt_1 c d a b)], []) by kernel_rfl) trivial).says (Says.agg (.cons (Says.int (rfl)) (.cons (Says.int (rfl)) (.nil))))
def S.o_cgt : Orc := orcAdd 56 (fun | [.str true t0, .agg [.int true .i64 a, .int true .i64 b], .agg [.int true .i64 c, .int true .i64 d]] => (match t0.data.toList == [62] with | true => some (.agg [.int true .i64 (S.cgt_0 a b c d), .int true .i64 (S.cgt_1 a b c d)]) | false => none) | _ => none) S.o_cne
theorem S.o_cgt_ok : OrcOk prog S.o_cgt := orcAdd_ok S.o_cne_ok fun a v h => by
  try dsimp only at h
  split at h
  · rename_i t0 a b c d
    split at h
    · rename_i ht; cases h; have ht0 := ht; obtain rfl := ba_eq ht0; exact S.cgt_sim a b c d
    · cases h
  · cases h
def S.cge_0 (a b c d : Int) : Int := (S.cle_0 c d a b)
def S.cge_1 (a b c d : Int) : Int := (S.cle_1 c d a b)
theorem S.cge_sim (a b c d : Int) : Sim prog 56 [.str true ⟨#[62, 61]⟩, .agg [.int true .i64 a, .int true .i64 b], .agg [.int true .i64 c, .int true .i64 d]] [] (.agg [.int true .i64 (S.cge_0 a b c d), .int true .i64 (S.cge_1 a b c d)]) [] := by
 refine Sim.rng fun hrng => ?_
 try simp only [rngL, rngV, kLo, kHi] at hrng
 refine Sim.args (args' := [.str false ⟨#[62, 61]⟩, .agg [.int true .i64 a, .int true .i64 b], .agg [.int true .i64 c, .int true .i64 d]]) ?_ (.cons (Says.str rfl) (.cons (Says.refl _) (.cons (Says.refl _) (.nil))))
 exact (sim_run (S.hE S.o_cgt_ok) (show run _ 56 [.str false ⟨#[62, 61]⟩, .agg [.int true .i64 a, .int true .i64 b], .agg [.int true .i64 c, .int true .i64 d]] [] [] = some (True, .agg [.int true .i64 (S.cle_0 c d a b), .int true .i64 (S.cle_1 c d a b)], []) by kernel_rfl) trivial).says (Says.agg (.cons (Says.int (rfl)) (.cons (Says.int (rfl)) (.nil))))
def S.o_cge : Orc := orcAdd 56 (fun | [.str true t0, .agg [.int true .i64 a, .int true .i64 b], .agg [.int true .i64 c, .int true .i64 d]] => (match t0.data.toList == [62, 61] with | true => some (.agg [.int true .i64 (S.cge_0 a b c d), .int true .i64 (S.cge_1 a b c d)]) | false => none) | _ => none) S.o_cgt
theorem S.o_cge_ok : OrcOk prog S.o_cge := orcAdd_ok S.o_cgt_ok fun a v h => by
  try dsimp only at h
  split at h
  · rename_i t0 a b c d
    split at h
    · rename_i ht; cases h; have ht0 := ht; obtain rfl := ba_eq ht0; exact S.cge_sim a b c d
    · cases h
  · cases h
def S.lboth_0 (a b c d : Int) : Int := (if true = true then if S.Truth_0 c d < S.Truth_0 a b then S.Truth_0 c d else S.Truth_0 a b else if S.Truth_0 c d > S.Truth_0 a b then S.Truth_0 c d else S.Truth_0 a b)
def S.lboth_1 (a b c d : Int) : Int := (if true = true then if S.Truth_1 c d < S.Truth_1 a b then S.Truth_1 c d else S.Truth_1 a b else if S.Truth_1 c d > S.Truth_1 a b then S.Truth_1 c d else S.Truth_1 a b)
theorem S.lboth_sim (a b c d : Int) : Sim prog 55 [.str true ⟨#[38, 38]⟩, .agg [.int true .i64 a, .int true .i64 b], .agg [.int true .i64 c, .int true .i64 d]] [] (.agg [.int true .i64 (S.lboth_0 a b c d), .int true .i64 (S.lboth_1 a b c d)]) [] := by
 refine Sim.rng fun hrng => ?_
 try simp only [rngL, rngV, kLo, kHi] at hrng
 refine Sim.args (args' := [.str false ⟨#[38, 38]⟩, .agg [.int true .i64 a, .int true .i64 b], .agg [.int true .i64 c, .int true .i64 d]]) ?_ (.cons (Says.str rfl) (.cons (Says.refl _) (.cons (Says.refl _) (.nil))))
 exact (sim_run (S.hE S.o_cge_ok) (show run _ 55 [.str false ⟨#[38, 38]⟩, .agg [.int true .i64 a, .int true .i64 b], .agg [.int true .i64 c, .int true .i64 d]] [] [] = some (True, .agg [.int true .i64 (if true = true then if S.Truth_0 c d < S.Truth_0 a b then S.Truth_0 c d else S.Truth_0 a b else if S.Truth_0 c d > S.Truth_0 a b then S.Truth_0 c d else S.Truth_0 a b), .int true .i64 (if true = true then if S.Truth_1 c d < S.Truth_1 a b then S.Truth_1 c d else S.Truth_1 a b else if S.Truth_1 c d > S.Truth_1 a b then S.Truth_1 c d else S.Truth_1 a b)], []) by kernel_rfl) trivial).says (Says.agg (.cons (Says.int (rfl)) (.cons (Says.int (rfl)) (.nil))))
def S.o_lboth : Orc := orcAdd 55 (fun | [.str true t0, .agg [.int true .i64 a, .int true .i64 b], .agg [.int true .i64 c, .int true .i64 d]] => (match t0.data.toList == [38, 38] with | true => some (.agg [.int true .i64 (S.lboth_0 a b c d), .int true .i64 (S.lboth_1 a b c d)]) | false => none) | _ => none) S.o_cge
theorem S.o_lboth_ok : OrcOk prog S.o_lboth := orcAdd_ok S.o_cge_ok fun a v h => by
  try dsimp only at h
  split at h
  · rename_i t0 a b c d
    split at h
    · rename_i ht; cases h; have ht0 := ht; obtain rfl := ba_eq ht0; exact S.lboth_sim a b c d
    · cases h
  · cases h
def S.lone_0 (a b c d : Int) : Int := (if false = true then if S.Truth_0 c d < S.Truth_0 a b then S.Truth_0 c d else S.Truth_0 a b else if S.Truth_0 c d > S.Truth_0 a b then S.Truth_0 c d else S.Truth_0 a b)
def S.lone_1 (a b c d : Int) : Int := (if false = true then if S.Truth_1 c d < S.Truth_1 a b then S.Truth_1 c d else S.Truth_1 a b else if S.Truth_1 c d > S.Truth_1 a b then S.Truth_1 c d else S.Truth_1 a b)
theorem S.lone_sim (a b c d : Int) : Sim prog 55 [.str true ⟨#[124, 124]⟩, .agg [.int true .i64 a, .int true .i64 b], .agg [.int true .i64 c, .int true .i64 d]] [] (.agg [.int true .i64 (S.lone_0 a b c d), .int true .i64 (S.lone_1 a b c d)]) [] := by
 refine Sim.rng fun hrng => ?_
 try simp only [rngL, rngV, kLo, kHi] at hrng
 refine Sim.args (args' := [.str false ⟨#[124, 124]⟩, .agg [.int true .i64 a, .int true .i64 b], .agg [.int true .i64 c, .int true .i64 d]]) ?_ (.cons (Says.str rfl) (.cons (Says.refl _) (.cons (Says.refl _) (.nil))))
 exact (sim_run (S.hE S.o_lboth_ok) (show run _ 55 [.str false ⟨#[124, 124]⟩, .agg [.int true .i64 a, .int true .i64 b], .agg [.int true .i64 c, .int true .i64 d]] [] [] = some (True, .agg [.int true .i64 (if false = true then if S.Truth_0 c d < S.Truth_0 a b then S.Truth_0 c d else S.Truth_0 a b else if S.Truth_0 c d > S.Truth_0 a b then S.Truth_0 c d else S.Truth_0 a b), .int true .i64 (if false = true then if S.Truth_1 c d < S.Truth_1 a b then S.Truth_1 c d else S.Truth_1 a b else if S.Truth_1 c d > S.Truth_1 a b then S.Truth_1 c d else S.Truth_1 a b)], []) by kernel_rfl) trivial).says (Says.agg (.cons (Says.int (rfl)) (.cons (Says.int (rfl)) (.nil))))
def S.o_lone : Orc := orcAdd 55 (fun | [.str true t0, .agg [.int true .i64 a, .int true .i64 b], .agg [.int true .i64 c, .int true .i64 d]] => (match t0.data.toList == [124, 124] with | true => some (.agg [.int true .i64 (S.lone_0 a b c d), .int true .i64 (S.lone_1 a b c d)]) | false => none) | _ => none) S.o_lboth
theorem S.o_lone_ok : OrcOk prog S.o_lone := orcAdd_ok S.o_lboth_ok fun a v h => by
  try dsimp only at h
  split at h
  · rename_i t0 a b c d
    split at h
    · rename_i ht; cases h; have ht0 := ht; obtain rfl := ba_eq ht0; exact S.lone_sim a b c d
    · cases h
  · cases h
def S.shl_0 (a b c d : Int) : Int := (bif S.Empty (S.Meet_0 c d 0 63) (S.Meet_1 c d 0 63) then (1) else (bif !S.One_1 (S.Meet_0 c d 0 63) (S.Meet_1 c d 0 63) then (-9223372036854775808) else (bif S.One_0 (S.Meet_0 c d 0 63) (S.Meet_1 c d 0 63) == 63 then (-9223372036854775808) else (S.emul_0 a b (S.Of_0 (IntKind.wrap .i64 (1 * 2 ^ min (Int.toNat (IntKind.wrap .u64 (S.One_0 (S.Meet_0 c d 0 63) (S.Meet_1 c d 0 63)))) (IntKind.bits .i64)))) (S.Of_1 (IntKind.wrap .i64 (1 * 2 ^ min (Int.toNat (IntKind.wrap .u64 (S.One_0 (S.Meet_0 c d 0 63) (S.Meet_1 c d 0 63)))) (IntKind.bits .i64))))))))
def S.shl_1 (a b c d : Int) : Int := (bif S.Empty (S.Meet_0 c d 0 63) (S.Meet_1 c d 0 63) then (0) else (bif !S.One_1 (S.Meet_0 c d 0 63) (S.Meet_1 c d 0 63) then (9223372036854775807) else (bif S.One_0 (S.Meet_0 c d 0 63) (S.Meet_1 c d 0 63) == 63 then (9223372036854775807) else (S.emul_1 a b (S.Of_0 (IntKind.wrap .i64 (1 * 2 ^ min (Int.toNat (IntKind.wrap .u64 (S.One_0 (S.Meet_0 c d 0 63) (S.Meet_1 c d 0 63)))) (IntKind.bits .i64)))) (S.Of_1 (IntKind.wrap .i64 (1 * 2 ^ min (Int.toNat (IntKind.wrap .u64 (S.One_0 (S.Meet_0 c d 0 63) (S.Meet_1 c d 0 63)))) (IntKind.bits .i64))))))))
theorem S.shl_sim (a b c d : Int) : Sim prog 54 [.str true ⟨#[60, 60]⟩, .agg [.int true .i64 a, .int true .i64 b], .agg [.int true .i64 c, .int true .i64 d]] [] (.agg [.int true .i64 (S.shl_0 a b c d), .int true .i64 (S.shl_1 a b c d)]) [] := by
 refine Sim.rng fun hrng => ?_
 try simp only [rngL, rngV, kLo, kHi] at hrng
 refine Sim.args (args' := [.str false ⟨#[60, 60]⟩, .agg [.int true .i64 a, .int true .i64 b], .agg [.int true .i64 c, .int true .i64 d]]) ?_ (.cons (Says.str rfl) (.cons (Says.refl _) (.cons (Says.refl _) (.nil))))
 rcases Bool.eq_false_or_eq_true (S.Empty (S.Meet_0 c d 0 63) (S.Meet_1 c d 0 63)) with h0 | h0
 ·
  exact (sim_run (S.hE S.o_lone_ok) (show run _ 54 [.str false ⟨#[60, 60]⟩, .agg [.int true .i64 a, .int true .i64 b], .agg [.int true .i64 c, .int true .i64 d]] [] [.br true] = some (True ∧ S.Empty (S.Meet_0 c d 0 63) (S.Meet_1 c d 0 63) = true, .agg [.int false .i64 1, .int false .i64 0], []) by kernel_rfl) ⟨trivial, h0⟩).says (Says.agg (.cons (Says.int (by simp only [S.shl_0, h0, cond_true, cond_false])) (.cons (Says.int (by simp only [S.shl_1, h0, cond_true, cond_false])) (.nil))))
 ·
  rcases Bool.eq_false_or_eq_true (!S.One_1 (S.Meet_0 c d 0 63) (S.Meet_1 c d 0 63)) with h1 | h1
  ·
   exact (sim_run (S.hE S.o_lone_ok) (show run _ 54 [.str false ⟨#[60, 60]⟩, .agg [.int true .i64 a, .int true .i64 b], .agg [.int true .i64 c, .int true .i64 d]] [] [.br false, .br true] = some ((True ∧ S.Empty (S.Meet_0 c d 0 63) (S.Meet_1 c d 0 63) = false) ∧ (!S.One_1 (S.Meet_0 c d 0 63) (S.Meet_1 c d 0 63)) = true, .agg [.int false .i64 (-9223372036854775808), .int false .i64 9223372036854775807], []) by kernel_rfl) ⟨⟨trivial, h0⟩, h1⟩).says (Says.agg (.cons (Says.int (by simp only [S.shl_0, h1, h0, cond_true, cond_false])) (.cons (Says.int (by simp only [S.shl_1, h1, h0, cond_true, cond_false])) (.nil))))
  ·
   rcases Bool.eq_false_or_eq_true (S.One_0 (S.Meet_0 c d 0 63) (S.Meet_1 c d 0 63) == 63) with h2 | h2
   ·
    exact (sim_run (S.hE S.o_lone_ok) (show run _ 54 [.str false ⟨#[60, 60]⟩, .agg [.int true .i64 a, .int true .i64 b], .agg [.int true .i64 c, .int true .i64 d]] [] [.br false, .br false, .br true] = some (((True ∧ S.Empty (S.Meet_0 c d 0 63) (S.Meet_1 c d 0 63) = false) ∧ (!S.One_1 (S.Meet_0 c d 0 63) (S.Meet_1 c d 0 63)) = false) ∧ (S.One_0 (S.Meet_0 c d 0 63) (S.Meet_1 c d 0 63) == 63) = true, .agg [.int false .i64 (-9223372036854775808), .int false .i64 9223372036854775807], []) by kernel_rfl) ⟨⟨⟨trivial, h0⟩, h1⟩, h2⟩).says (Says.agg (.cons (Says.int (by simp only [S.shl_0, h2, h1, h0, cond_true, cond_false])) (.cons (Says.int (by simp only [S.shl_1, h2, h1, h0, cond_true, cond_false])) (.nil))))
   ·
    rcases Bool.eq_false_or_eq_true (decide (0 ≤ IntKind.wrap .u64 (S.One_0 (S.Meet_0 c d 0 63) (S.Meet_1 c d 0 63)))) with h3 | h3
    ·
     exact (sim_run (S.hE S.o_lone_ok) (show run _ 54 [.str false ⟨#[60, 60]⟩, .agg [.int true .i64 a, .int true .i64 b], .agg [.int true .i64 c, .int true .i64 d]] [] [.br false, .br false, .br false, .br true] = some ((((True ∧ S.Empty (S.Meet_0 c d 0 63) (S.Meet_1 c d 0 63) = false) ∧ (!S.One_1 (S.Meet_0 c d 0 63) (S.Meet_1 c d 0 63)) = false) ∧ (S.One_0 (S.Meet_0 c d 0 63) (S.Meet_1 c d 0 63) == 63) = false) ∧ decide (0 ≤ IntKind.wrap .u64 (S.One_0 (S.Meet_0 c d 0 63) (S.Meet_1 c d 0 63))) = true, .agg [.int true .i64 (S.emul_0 a b (S.Of_0 (IntKind.wrap .i64 (1 * 2 ^ min (Int.toNat (IntKind.wrap .u64 (S.One_0 (S.Meet_0 c d 0 63) (S.Meet_1 c d 0 63)))) (IntKind.bits .i64)))) (S.Of_1 (IntKind.wrap .i64 (1 * 2 ^ min (Int.toNat (IntKind.wrap .u64 (S.One_0 (S.Meet_0 c d 0 63) (S.Meet_1 c d 0 63)))) (IntKind.bits .i64))))), .int true .i64 (S.emul_1 a b (S.Of_0 (IntKind.wrap .i64 (1 * 2 ^ min (Int.toNat (IntKind.wrap .u64 (S.One_0 (S.Meet_0 c d 0 63) (S.Meet_1 c d 0 63)))) (IntKind.bits .i64)))) (S.Of_1 (IntKind.wrap .i64 (1 * 2 ^ min (Int.toNat (IntKind.wrap .u64 (S.One_0 (S.Meet_0 c d 0 63) (S.Meet_1 c d 0 63)))) (IntKind.bits .i64)))))], []) by kernel_rfl) ⟨⟨⟨⟨trivial, h0⟩, h1⟩, h2⟩, h3⟩).says (Says.agg (.cons (Says.int (by simp only [S.shl_0, h3, h2, h1, h0, cond_true, cond_false])) (.cons (Says.int (by simp only [S.shl_1, h3, h2, h1, h0, cond_true, cond_false])) (.nil))))
    ·
     exfalso; first | (rw [S.u64_nonneg] at h3; cases h3) | (simp only [bne, Bool.not_false, Bool.not_true] at h3 <;> first | done | cases h3)
def S.o_shl : Orc := orcAdd 54 (fun | [.str true t0, .agg [.int true .i64 a, .int true .i64 b], .agg [.int true .i64 c, .int true .i64 d]] => (match t0.data.toList == [60, 60] with | true => some (.agg [.int true .i64 (S.shl_0 a b c d), .int true .i64 (S.shl_1 a b c d)]) | false => none) | _ => none) S.o_lone
theorem S.o_shl_ok : OrcOk prog S.o_shl := orcAdd_ok S.o_lone_ok fun a v h => by
  try dsimp only at h
  split at h
  · rename_i t0 a b c d
    split at h
    · rename_i ht; cases h; have ht0 := ht; obtain rfl := ba_eq ht0; exact S.shl_sim a b c d
    · cases h
  · cases h
def S.shr_0 (a b c d : Int) : Int := (bif S.Empty (S.Meet_0 c d 0 63) (S.Meet_1 c d 0 63) then (1) else (S.eright_0 a b (S.Meet_0 c d 0 63) (S.Meet_1 c d 0 63)))
def S.shr_1 (a b c d : Int) : Int := (bif S.Empty (S.Meet_0 c d 0 63) (S.Meet_1 c d 0 63) then (0) else (S.eright_1 a b (S.Meet_0 c d 0 63) (S.Meet_1 c d 0 63)))
theorem S.shr_sim (a b c d : Int) : Sim prog 54 [.str true ⟨#[62, 62]⟩, .agg [.int true .i64 a, .int true .i64 b], .agg [.int true .i64 c, .int true .i64 d]] [] (.agg [.int true .i64 (S.shr_0 a b c d), .int true .i64 (S.shr_1 a b c d)]) [] := by
 refine Sim.rng fun hrng => ?_
 try simp only [rngL, rngV, kLo, kHi] at hrng
 refine Sim.args (args' := [.str false ⟨#[62, 62]⟩, .agg [.int true .i64 a, .int true .i64 b], .agg [.int true .i64 c, .int true .i64 d]]) ?_ (.cons (Says.str rfl) (.cons (Says.refl _) (.cons (Says.refl _) (.nil))))
 rcases Bool.eq_false_or_eq_true (S.Empty (S.Meet_0 c d 0 63) (S.Meet_1 c d 0 63)) with h0 | h0
 ·
  exact (sim_run (S.hE S.o_shl_ok) (show run _ 54 [.str false ⟨#[62, 62]⟩, .agg [.int true .i64 a, .int true .i64 b], .agg [.int true .i64 c, .int true .i64 d]] [] [.br true] = some (True ∧ S.Empty (S.Meet_0 c d 0 63) (S.Meet_1 c d 0 63) = true, .agg [.int false .i64 1, .int false .i64 0], []) by kernel_rfl) ⟨trivial, h0⟩).says (Says.agg (.cons (Says.int (by simp only [S.shr_0, h0, cond_true, cond_false])) (.cons (Says.int (by simp only [S.shr_1, h0, cond_true, cond_false])) (.nil))))
 ·
  exact (sim_run (S.hE S.o_shl_ok) (show run _ 54 [.str false ⟨#[62, 62]⟩, .agg [.int true .i64 a, .int true .i64 b], .agg [.int true .i64 c, .int true .i64 d]] [] [.br false] = some (True ∧ S.Empty (S.Meet_0 c d 0 63) (S.Meet_1 c d 0 63) = false, .agg [.int true .i64 (S.eright_0 a b (S.Meet_0 c d 0 63) (S.Meet_1 c d 0 63)), .int true .i64 (S.eright_1 a b (S.Meet_0 c d 0 63) (S.Meet_1 c d 0 63))], []) by kernel_rfl) ⟨trivial, h0⟩).says (Says.agg (.cons (Says.int (by simp only [S.shr_0, h0, cond_true, cond_false])) (.cons (Says.int (by simp only [S.shr_1, h0, cond_true, cond_false])) (.nil))))
def S.o_shr : Orc := orcAdd 54 (fun | [.str true t0, .agg [.int true .i64 a, .int true .i64 b], .agg [.int true .i64 c, .int true .i64 d]] => (match t0.data.toList == [62, 62] with | true => some (.agg [.int true .i64 (S.shr_0 a b c d), .int true .i64 (S.shr_1 a b c d)]) | false => none) | _ => none) S.o_shl
theorem S.o_shr_ok : OrcOk prog S.o_shr := orcAdd_ok S.o_shl_ok fun a v h => by
  try dsimp only at h
  split at h
  · rename_i t0 a b c d
    split at h
    · rename_i ht; cases h; have ht0 := ht; obtain rfl := ba_eq ht0; exact S.shr_sim a b c d
    · cases h
  · cases h
def S.Traps (a : ByteArray) (b c d e : Int) : Int := (bif S.Empty b c then (0) else (bif S.Empty d e then (0) else (bif ByteArray.toList a == ByteArray.toList { data := #[47] } then (bif S.Has d e 0 then (1) else (bif ByteArray.toList a == ByteArray.toList { data := #[60, 60] } then (bif !S.In d e 0 63 then (2) else (0)) else (bif ByteArray.toList a == ByteArray.toList { data := #[62, 62] } then (bif !S.In d e 0 63 then (2) else (0)) else (0)))) else (bif ByteArray.toList a == ByteArray.toList { data := #[37] } then (bif S.Has d e 0 then (1) else (bif ByteArray.toList a == ByteArray.toList { data := #[60, 60] } then (bif !S.In d e 0 63 then (2) else (0)) else (bif ByteArray.toList a == ByteArray.toList { data := #[62, 62] } then (bif !S.In d e 0 63 then (2) else (0)) else (0)))) else (bif ByteArray.toList a == ByteArray.toList { data := #[60, 60] } then (bif !S.In d e 0 63 then (2) else (0)) else (bif ByteArray.toList a == ByteArray.toList { data := #[62, 62] } then (bif !S.In d e 0 63 then (2) else (0)) else (0)))))))
theorem S.Traps_sim (a : ByteArray) (b c d e : Int) : Sim prog 19 [.str true a, .agg [.int true .i64 b, .int true .i64 c], .agg [.int true .i64 d, .int true .i64 e]] [] (.int true .i64 (S.Traps a b c d e)) [] := by
 refine Sim.rng fun hrng => ?_
 try simp only [rngL, rngV, kLo, kHi] at hrng
 rcases Bool.eq_false_or_eq_true (S.Empty b c) with h0 | h0
 ·
  exact (sim_run (S.hE S.o_shr_ok) (show run _ 19 [.str true a, .agg [.int true .i64 b, .int true .i64 c], .agg [.int true .i64 d, .int true .i64 e]] [] [.br true] = some (True ∧ S.Empty b c = true, .int false .i64 0, []) by kernel_rfl) ⟨trivial, h0⟩).says (Says.int (by simp only [S.Traps, h0, cond_true, cond_false]))
 ·
  rcases Bool.eq_false_or_eq_true (S.Empty d e) with h1 | h1
  ·
   exact (sim_run (S.hE S.o_shr_ok) (show run _ 19 [.str true a, .agg [.int true .i64 b, .int true .i64 c], .agg [.int true .i64 d, .int true .i64 e]] [] [.br false, .br true] = some ((True ∧ S.Empty b c = false) ∧ S.Empty d e = true, .int false .i64 0, []) by kernel_rfl) ⟨⟨trivial, h0⟩, h1⟩).says (Says.int (by simp only [S.Traps, h1, h0, cond_true, cond_false]))
  ·
   rcases Bool.eq_false_or_eq_true (ByteArray.toList a == ByteArray.toList { data := #[47] }) with h2 | h2
   ·
    rcases Bool.eq_false_or_eq_true (S.Has d e 0) with h3 | h3
    ·
     exact (sim_run (S.hE S.o_shr_ok) (show run _ 19 [.str true a, .agg [.int true .i64 b, .int true .i64 c], .agg [.int true .i64 d, .int true .i64 e]] [] [.br false, .br false, .br true, .br true] = some ((((True ∧ S.Empty b c = false) ∧ S.Empty d e = false) ∧ (ByteArray.toList a == ByteArray.toList { data := #[47] }) = true) ∧ S.Has d e 0 = true, .int false .i64 1, []) by kernel_rfl) ⟨⟨⟨⟨trivial, h0⟩, h1⟩, h2⟩, h3⟩).says (Says.int (by simp only [S.Traps, h3, h2, h1, h0, cond_true, cond_false]))
    ·
     rcases Bool.eq_false_or_eq_true (ByteArray.toList a == ByteArray.toList { data := #[60, 60] }) with h4 | h4
     ·
      rcases Bool.eq_false_or_eq_true (!S.In d e 0 63) with h5 | h5
      ·
       exact (sim_run (S.hE S.o_shr_ok) (show run _ 19 [.str true a, .agg [.int true .i64 b, .int true .i64 c], .agg [.int true .i64 d, .int true .i64 e]] [] [.br false, .br false, .br true, .br false, .br true, .br true] = some ((((((True ∧ S.Empty b c = false) ∧ S.Empty d e = false) ∧ (ByteArray.toList a == ByteArray.toList { data := #[47] }) = true) ∧ S.Has d e 0 = false) ∧ (ByteArray.toList a == ByteArray.toList { data := #[60, 60] }) = true) ∧ (!S.In d e 0 63) = true, .int false .i64 2, []) by kernel_rfl) ⟨⟨⟨⟨⟨⟨trivial, h0⟩, h1⟩, h2⟩, h3⟩, h4⟩, h5⟩).says (Says.int (by simp only [S.Traps, h5, h4, h3, h2, h1, h0, cond_true, cond_false]))
      ·
       exact (sim_run (S.hE S.o_shr_ok) (show run _ 19 [.str true a, .agg [.int true .i64 b, .int true .i64 c], .agg [.int true .i64 d, .int true .i64 e]] [] [.br false, .br false, .br true, .br false, .br true, .br false] = some ((((((True ∧ S.Empty b c = false) ∧ S.Empty d e = false) ∧ (ByteArray.toList a == ByteArray.toList { data := #[47] }) = true) ∧ S.Has d e 0 = false) ∧ (ByteArray.toList a == ByteArray.toList { data := #[60, 60] }) = true) ∧ (!S.In d e 0 63) = false, .int false .i64 0, []) by kernel_rfl) ⟨⟨⟨⟨⟨⟨trivial, h0⟩, h1⟩, h2⟩, h3⟩, h4⟩, h5⟩).says (Says.int (by simp only [S.Traps, h5, h4, h3, h2, h1, h0, cond_true, cond_false]))
     ·
      rcases Bool.eq_false_or_eq_true (ByteArray.toList a == ByteArray.toList { data := #[62, 62] }) with h5 | h5
      ·
       rcases Bool.eq_false_or_eq_true (!S.In d e 0 63) with h6 | h6
       ·
        exact (sim_run (S.hE S.o_shr_ok) (show run _ 19 [.str true a, .agg [.int true .i64 b, .int true .i64 c], .agg [.int true .i64 d, .int true .i64 e]] [] [.br false, .br false, .br true, .br false, .br false, .br true, .br true] = some (((((((True ∧ S.Empty b c = false) ∧ S.Empty d e = false) ∧ (ByteArray.toList a == ByteArray.toList { data := #[47] }) = true) ∧ S.Has d e 0 = false) ∧ (ByteArray.toList a == ByteArray.toList { data := #[60, 60] }) = false) ∧ (ByteArray.toList a == ByteArray.toList { data := #[62, 62] }) = true) ∧ (!S.In d e 0 63) = true, .int false .i64 2, []) by kernel_rfl) ⟨⟨⟨⟨⟨⟨⟨trivial, h0⟩, h1⟩, h2⟩, h3⟩, h4⟩, h5⟩, h6⟩).says (Says.int (by simp only [S.Traps, h6, h5, h4, h3, h2, h1, h0, cond_true, cond_false]))
       ·
        exact (sim_run (S.hE S.o_shr_ok) (show run _ 19 [.str true a, .agg [.int true .i64 b, .int true .i64 c], .agg [.int true .i64 d, .int true .i64 e]] [] [.br false, .br false, .br true, .br false, .br false, .br true, .br false] = some (((((((True ∧ S.Empty b c = false) ∧ S.Empty d e = false) ∧ (ByteArray.toList a == ByteArray.toList { data := #[47] }) = true) ∧ S.Has d e 0 = false) ∧ (ByteArray.toList a == ByteArray.toList { data := #[60, 60] }) = false) ∧ (ByteArray.toList a == ByteArray.toList { data := #[62, 62] }) = true) ∧ (!S.In d e 0 63) = false, .int false .i64 0, []) by kernel_rfl) ⟨⟨⟨⟨⟨⟨⟨trivial, h0⟩, h1⟩, h2⟩, h3⟩, h4⟩, h5⟩, h6⟩).says (Says.int (by simp only [S.Traps, h6, h5, h4, h3, h2, h1, h0, cond_true, cond_false]))
      ·
       exact (sim_run (S.hE S.o_shr_ok) (show run _ 19 [.str true a, .agg [.int true .i64 b, .int true .i64 c], .agg [.int true .i64 d, .int true .i64 e]] [] [.br false, .br false, .br true, .br false, .br false, .br false] = some ((((((True ∧ S.Empty b c = false) ∧ S.Empty d e = false) ∧ (ByteArray.toList a == ByteArray.toList { data := #[47] }) = true) ∧ S.Has d e 0 = false) ∧ (ByteArray.toList a == ByteArray.toList { data := #[60, 60] }) = false) ∧ (ByteArray.toList a == ByteArray.toList { data := #[62, 62] }) = false, .int false .i64 0, []) by kernel_rfl) ⟨⟨⟨⟨⟨⟨trivial, h0⟩, h1⟩, h2⟩, h3⟩, h4⟩, h5⟩).says (Says.int (by simp only [S.Traps, h5, h4, h3, h2, h1, h0, cond_true, cond_false]))
   ·
    rcases Bool.eq_false_or_eq_true (ByteArray.toList a == ByteArray.toList { data := #[37] }) with h3 | h3
    ·
     rcases Bool.eq_false_or_eq_true (S.Has d e 0) with h4 | h4
     ·
      exact (sim_run (S.hE S.o_shr_ok) (show run _ 19 [.str true a, .agg [.int true .i64 b, .int true .i64 c], .agg [.int true .i64 d, .int true .i64 e]] [] [.br false, .br false, .br false, .br true, .br true] = some (((((True ∧ S.Empty b c = false) ∧ S.Empty d e = false) ∧ (ByteArray.toList a == ByteArray.toList { data := #[47] }) = false) ∧ (ByteArray.toList a == ByteArray.toList { data := #[37] }) = true) ∧ S.Has d e 0 = true, .int false .i64 1, []) by kernel_rfl) ⟨⟨⟨⟨⟨trivial, h0⟩, h1⟩, h2⟩, h3⟩, h4⟩).says (Says.int (by simp only [S.Traps, h4, h3, h2, h1, h0, cond_true, cond_false]))
     ·
      rcases Bool.eq_false_or_eq_true (ByteArray.toList a == ByteArray.toList { data := #[60, 60] }) with h5 | h5
      ·
       rcases Bool.eq_false_or_eq_true (!S.In d e 0 63) with h6 | h6
       ·
        exact (sim_run (S.hE S.o_shr_ok) (show run _ 19 [.str true a, .agg [.int true .i64 b, .int true .i64 c], .agg [.int true .i64 d, .int true .i64 e]] [] [.br false, .br false, .br false, .br true, .br false, .br true, .br true] = some (((((((True ∧ S.Empty b c = false) ∧ S.Empty d e = false) ∧ (ByteArray.toList a == ByteArray.toList { data := #[47] }) = false) ∧ (ByteArray.toList a == ByteArray.toList { data := #[37] }) = true) ∧ S.Has d e 0 = false) ∧ (ByteArray.toList a == ByteArray.toList { data := #[60, 60] }) = true) ∧ (!S.In d e 0 63) = true, .int false .i64 2, []) by kernel_rfl) ⟨⟨⟨⟨⟨⟨⟨trivial, h0⟩, h1⟩, h2⟩, h3⟩, h4⟩, h5⟩, h6⟩).says (Says.int (by simp only [S.Traps, h6, h5, h4, h3, h2, h1, h0, cond_true, cond_false]))
       ·
        exact (sim_run (S.hE S.o_shr_ok) (show run _ 19 [.str true a, .agg [.int true .i64 b, .int true .i64 c], .agg [.int true .i64 d, .int true .i64 e]] [] [.br false, .br false, .br false, .br true, .br false, .br true, .br false] = some (((((((True ∧ S.Empty b c = false) ∧ S.Empty d e = false) ∧ (ByteArray.toList a == ByteArray.toList { data := #[47] }) = false) ∧ (ByteArray.toList a == ByteArray.toList { data := #[37] }) = true) ∧ S.Has d e 0 = false) ∧ (ByteArray.toList a == ByteArray.toList { data := #[60, 60] }) = true) ∧ (!S.In d e 0 63) = false, .int false .i64 0, []) by kernel_rfl) ⟨⟨⟨⟨⟨⟨⟨trivial, h0⟩, h1⟩, h2⟩, h3⟩, h4⟩, h5⟩, h6⟩).says (Says.int (by simp only [S.Traps, h6, h5, h4, h3, h2, h1, h0, cond_true, cond_false]))
      ·
       rcases Bool.eq_false_or_eq_true (ByteArray.toList a == ByteArray.toList { data := #[62, 62] }) with h6 | h6
       ·
        rcases Bool.eq_false_or_eq_true (!S.In d e 0 63) with h7 | h7
        ·
         exact (sim_run (S.hE S.o_shr_ok) (show run _ 19 [.str true a, .agg [.int true .i64 b, .int true .i64 c], .agg [.int true .i64 d, .int true .i64 e]] [] [.br false, .br false, .br false, .br true, .br false, .br false, .br true, .br true] = some ((((((((True ∧ S.Empty b c = false) ∧ S.Empty d e = false) ∧ (ByteArray.toList a == ByteArray.toList { data := #[47] }) = false) ∧ (ByteArray.toList a == ByteArray.toList { data := #[37] }) = true) ∧ S.Has d e 0 = false) ∧ (ByteArray.toList a == ByteArray.toList { data := #[60, 60] }) = false) ∧ (ByteArray.toList a == ByteArray.toList { data := #[62, 62] }) = true) ∧ (!S.In d e 0 63) = true, .int false .i64 2, []) by kernel_rfl) ⟨⟨⟨⟨⟨⟨⟨⟨trivial, h0⟩, h1⟩, h2⟩, h3⟩, h4⟩, h5⟩, h6⟩, h7⟩).says (Says.int (by simp only [S.Traps, h7, h6, h5, h4, h3, h2, h1, h0, cond_true, cond_false]))
        ·
         exact (sim_run (S.hE S.o_shr_ok) (show run _ 19 [.str true a, .agg [.int true .i64 b, .int true .i64 c], .agg [.int true .i64 d, .int true .i64 e]] [] [.br false, .br false, .br false, .br true, .br false, .br false, .br true, .br false] = some ((((((((True ∧ S.Empty b c = false) ∧ S.Empty d e = false) ∧ (ByteArray.toList a == ByteArray.toList { data := #[47] }) = false) ∧ (ByteArray.toList a == ByteArray.toList { data := #[37] }) = true) ∧ S.Has d e 0 = false) ∧ (ByteArray.toList a == ByteArray.toList { data := #[60, 60] }) = false) ∧ (ByteArray.toList a == ByteArray.toList { data := #[62, 62] }) = true) ∧ (!S.In d e 0 63) = false, .int false .i64 0, []) by kernel_rfl) ⟨⟨⟨⟨⟨⟨⟨⟨trivial, h0⟩, h1⟩, h2⟩, h3⟩, h4⟩, h5⟩, h6⟩, h7⟩).says (Says.int (by simp only [S.Traps, h7, h6, h5, h4, h3, h2, h1, h0, cond_true, cond_false]))
       ·
        exact (sim_run (S.hE S.o_shr_ok) (show run _ 19 [.str true a, .agg [.int true .i64 b, .int true .i64 c], .agg [.int true .i64 d, .int true .i64 e]] [] [.br false, .br false, .br false, .br true, .br false, .br false, .br false] = some (((((((True ∧ S.Empty b c = false) ∧ S.Empty d e = false) ∧ (ByteArray.toList a == ByteArray.toList { data := #[47] }) = false) ∧ (ByteArray.toList a == ByteArray.toList { data := #[37] }) = true) ∧ S.Has d e 0 = false) ∧ (ByteArray.toList a == ByteArray.toList { data := #[60, 60] }) = false) ∧ (ByteArray.toList a == ByteArray.toList { data := #[62, 62] }) = false, .int false .i64 0, []) by kernel_rfl) ⟨⟨⟨⟨⟨⟨⟨trivial, h0⟩, h1⟩, h2⟩, h3⟩, h4⟩, h5⟩, h6⟩).says (Says.int (by simp only [S.Traps, h6, h5, h4, h3, h2, h1, h0, cond_true, cond_false]))
    ·
     rcases Bool.eq_false_or_eq_true (ByteArray.toList a == ByteArray.toList { data := #[60, 60] }) with h4 | h4
     ·
      rcases Bool.eq_false_or_eq_true (!S.In d e 0 63) with h5 | h5
      ·
       exact (sim_run (S.hE S.o_shr_ok) (show run _ 19 [.str true a, .agg [.int true .i64 b, .int true .i64 c], .agg [.int true .i64 d, .int true .i64 e]] [] [.br false, .br false, .br false, .br false, .br true, .br true] = some ((((((True ∧ S.Empty b c = false) ∧ S.Empty d e = false) ∧ (ByteArray.toList a == ByteArray.toList { data := #[47] }) = false) ∧ (ByteArray.toList a == ByteArray.toList { data := #[37] }) = false) ∧ (ByteArray.toList a == ByteArray.toList { data := #[60, 60] }) = true) ∧ (!S.In d e 0 63) = true, .int false .i64 2, []) by kernel_rfl) ⟨⟨⟨⟨⟨⟨trivial, h0⟩, h1⟩, h2⟩, h3⟩, h4⟩, h5⟩).says (Says.int (by simp only [S.Traps, h5, h4, h3, h2, h1, h0, cond_true, cond_false]))
      ·
       exact (sim_run (S.hE S.o_shr_ok) (show run _ 19 [.str true a, .agg [.int true .i64 b, .int true .i64 c], .agg [.int true .i64 d, .int true .i64 e]] [] [.br false, .br false, .br false, .br false, .br true, .br false] = some ((((((True ∧ S.Empty b c = false) ∧ S.Empty d e = false) ∧ (ByteArray.toList a == ByteArray.toList { data := #[47] }) = false) ∧ (ByteArray.toList a == ByteArray.toList { data := #[37] }) = false) ∧ (ByteArray.toList a == ByteArray.toList { data := #[60, 60] }) = true) ∧ (!S.In d e 0 63) = false, .int false .i64 0, []) by kernel_rfl) ⟨⟨⟨⟨⟨⟨trivial, h0⟩, h1⟩, h2⟩, h3⟩, h4⟩, h5⟩).says (Says.int (by simp only [S.Traps, h5, h4, h3, h2, h1, h0, cond_true, cond_false]))
     ·
      rcases Bool.eq_false_or_eq_true (ByteArray.toList a == ByteArray.toList { data := #[62, 62] }) with h5 | h5
      ·
       rcases Bool.eq_false_or_eq_true (!S.In d e 0 63) with h6 | h6
       ·
        exact (sim_run (S.hE S.o_shr_ok) (show run _ 19 [.str true a, .agg [.int true .i64 b, .int true .i64 c], .agg [.int true .i64 d, .int true .i64 e]] [] [.br false, .br false, .br false, .br false, .br false, .br true, .br true] = some (((((((True ∧ S.Empty b c = false) ∧ S.Empty d e = false) ∧ (ByteArray.toList a == ByteArray.toList { data := #[47] }) = false) ∧ (ByteArray.toList a == ByteArray.toList { data := #[37] }) = false) ∧ (ByteArray.toList a == ByteArray.toList { data := #[60, 60] }) = false) ∧ (ByteArray.toList a == ByteArray.toList { data := #[62, 62] }) = true) ∧ (!S.In d e 0 63) = true, .int false .i64 2, []) by kernel_rfl) ⟨⟨⟨⟨⟨⟨⟨trivial, h0⟩, h1⟩, h2⟩, h3⟩, h4⟩, h5⟩, h6⟩).says (Says.int (by simp only [S.Traps, h6, h5, h4, h3, h2, h1, h0, cond_true, cond_false]))
       ·
        exact (sim_run (S.hE S.o_shr_ok) (show run _ 19 [.str true a, .agg [.int true .i64 b, .int true .i64 c], .agg [.int true .i64 d, .int true .i64 e]] [] [.br false, .br false, .br false, .br false, .br false, .br true, .br false] = some (((((((True ∧ S.Empty b c = false) ∧ S.Empty d e = false) ∧ (ByteArray.toList a == ByteArray.toList { data := #[47] }) = false) ∧ (ByteArray.toList a == ByteArray.toList { data := #[37] }) = false) ∧ (ByteArray.toList a == ByteArray.toList { data := #[60, 60] }) = false) ∧ (ByteArray.toList a == ByteArray.toList { data := #[62, 62] }) = true) ∧ (!S.In d e 0 63) = false, .int false .i64 0, []) by kernel_rfl) ⟨⟨⟨⟨⟨⟨⟨trivial, h0⟩, h1⟩, h2⟩, h3⟩, h4⟩, h5⟩, h6⟩).says (Says.int (by simp only [S.Traps, h6, h5, h4, h3, h2, h1, h0, cond_true, cond_false]))
      ·
       exact (sim_run (S.hE S.o_shr_ok) (show run _ 19 [.str true a, .agg [.int true .i64 b, .int true .i64 c], .agg [.int true .i64 d, .int true .i64 e]] [] [.br false, .br false, .br false, .br false, .br false, .br false] = some ((((((True ∧ S.Empty b c = false) ∧ S.Empty d e = false) ∧ (ByteArray.toList a == ByteArray.toList { data := #[47] }) = false) ∧ (ByteArray.toList a == ByteArray.toList { data := #[37] }) = false) ∧ (ByteArray.toList a == ByteArray.toList { data := #[60, 60] }) = false) ∧ (ByteArray.toList a == ByteArray.toList { data := #[62, 62] }) = false, .int false .i64 0, []) by kernel_rfl) ⟨⟨⟨⟨⟨⟨trivial, h0⟩, h1⟩, h2⟩, h3⟩, h4⟩, h5⟩).says (Says.int (by simp only [S.Traps, h5, h4, h3, h2, h1, h0, cond_true, cond_false]))
def S.o_Traps : Orc := orcAdd 19 (fun | [.str true a, .agg [.int true .i64 b, .int true .i64 c], .agg [.int true .i64 d, .int true .i64 e]] => some (.int true .i64 (S.Traps a b c d e)) | _ => none) S.o_shr
theorem S.o_Traps_ok : OrcOk prog S.o_Traps := orcAdd_ok S.o_shr_ok fun a v h => by
  try dsimp only at h
  split at h
  · rename_i a b c d e; cases h; exact S.Traps_sim a b c d e
  · cases h
def S.Slt_0 (a b c d : Int) : Int := (bif S.Empty a b then (1) else (bif S.Empty c d then (1) else (bif d == -9223372036854775808 then (1) else (S.of_0 a (if true = true then if IntKind.wrap .i64 (d - 1) < b then IntKind.wrap .i64 (d - 1) else b else if IntKind.wrap .i64 (d - 1) > b then IntKind.wrap .i64 (d - 1) else b)))))
def S.Slt_1 (a b c d : Int) : Int := (bif S.Empty a b then (0) else (bif S.Empty c d then (0) else (bif d == -9223372036854775808 then (0) else (S.of_1 a (if true = true then if IntKind.wrap .i64 (d - 1) < b then IntKind.wrap .i64 (d - 1) else b else if IntKind.wrap .i64 (d - 1) > b then IntKind.wrap .i64 (d - 1) else b)))))
theorem S.Slt_sim (a b c d : Int) : Sim prog 21 [.agg [.int true .i64 a, .int true .i64 b], .str true ⟨#[60]⟩, .agg [.int true .i64 c, .int true .i64 d]] [] (.agg [.int true .i64 (S.Slt_0 a b c d), .int true .i64 (S.Slt_1 a b c d)]) [] := by
 refine Sim.rng fun hrng => ?_
 try simp only [rngL, rngV, kLo, kHi] at hrng
 refine Sim.args (args' := [.agg [.int true .i64 a, .int true .i64 b], .str false ⟨#[60]⟩, .agg [.int true .i64 c, .int true .i64 d]]) ?_ (.cons (Says.refl _) (.cons (Says.str rfl) (.cons (Says.refl _) (.nil))))
 rcases Bool.eq_false_or_eq_true (S.Empty a b) with h0 | h0
 ·
  exact (sim_run (S.hE S.o_Traps_ok) (show run _ 21 [.agg [.int true .i64 a, .int true .i64 b], .str false ⟨#[60]⟩, .agg [.int true .i64 c, .int true .i64 d]] [] [.br true] = some (True ∧ S.Empty a b = true, .agg [.int false .i64 1, .int false .i64 0], []) by kernel_rfl) ⟨trivial, h0⟩).says (Says.agg (.cons (Says.int (by simp only [S.Slt_0, h0, cond_true, cond_false])) (.cons (Says.int (by simp only [S.Slt_1, h0, cond_true, cond_false])) (.nil))))
 ·
  rcases Bool.eq_false_or_eq_true (S.Empty c d) with h1 | h1
  ·
   exact (sim_run (S.hE S.o_Traps_ok) (show run _ 21 [.agg [.int true .i64 a, .int true .i64 b], .str false ⟨#[60]⟩, .agg [.int true .i64 c, .int true .i64 d]] [] [.br false, .br true] = some ((True ∧ S.Empty a b = false) ∧ S.Empty c d = true, .agg [.int false .i64 1, .int false .i64 0], []) by kernel_rfl) ⟨⟨trivial, h0⟩, h1⟩).says (Says.agg (.cons (Says.int (by simp only [S.Slt_0, h1, h0, cond_true, cond_false])) (.cons (Says.int (by simp only [S.Slt_1, h1, h0, cond_true, cond_false])) (.nil))))
  ·
   rcases Bool.eq_false_or_eq_true (d == -9223372036854775808) with h2 | h2
   ·
    exact (sim_run (S.hE S.o_Traps_ok) (show run _ 21 [.agg [.int true .i64 a, .int true .i64 b], .str false ⟨#[60]⟩, .agg [.int true .i64 c, .int true .i64 d]] [] [.br false, .br false, .br true, .br true] = some ((((True ∧ S.Empty a b = false) ∧ S.Empty c d = false) ∧ (d == -9223372036854775808) = true) ∧ (d == -9223372036854775808) = true, .agg [.int false .i64 1, .int false .i64 0], []) by kernel_rfl) ⟨⟨⟨⟨trivial, h0⟩, h1⟩, h2⟩, h2⟩).says (Says.agg (.cons (Says.int (by simp only [S.Slt_0, h2, h1, h0, cond_true, cond_false])) (.cons (Says.int (by simp only [S.Slt_1, h2, h1, h0, cond_true, cond_false])) (.nil))))
   ·
    exact (sim_run (S.hE S.o_Traps_ok) (show run _ 21 [.agg [.int true .i64 a, .int true .i64 b], .str false ⟨#[60]⟩, .agg [.int true .i64 c, .int true .i64 d]] [] [.br false, .br false, .br false] = some (((True ∧ S.Empty a b = false) ∧ S.Empty c d = false) ∧ (d == -9223372036854775808) = false, .agg [.int true .i64 (S.of_0 a (if true = true then if IntKind.wrap .i64 (d - 1) < b then IntKind.wrap .i64 (d - 1) else b else if IntKind.wrap .i64 (d - 1) > b then IntKind.wrap .i64 (d - 1) else b)), .int true .i64 (S.of_1 a (if true = true then if IntKind.wrap .i64 (d - 1) < b then IntKind.wrap .i64 (d - 1) else b else if IntKind.wrap .i64 (d - 1) > b then IntKind.wrap .i64 (d - 1) else b))], []) by kernel_rfl) ⟨⟨⟨trivial, h0⟩, h1⟩, h2⟩).says (Says.agg (.cons (Says.int (by simp only [S.Slt_0, h2, h1, h0, cond_true, cond_false])) (.cons (Says.int (by simp only [S.Slt_1, h2, h1, h0, cond_true, cond_false])) (.nil))))
def S.o_Slt : Orc := orcAdd 21 (fun | [.agg [.int true .i64 a, .int true .i64 b], .str true t1, .agg [.int true .i64 c, .int true .i64 d]] => (match t1.data.toList == [60] with | true => some (.agg [.int true .i64 (S.Slt_0 a b c d), .int true .i64 (S.Slt_1 a b c d)]) | false => none) | _ => none) S.o_Traps
theorem S.o_Slt_ok : OrcOk prog S.o_Slt := orcAdd_ok S.o_Traps_ok fun a v h => by
  try dsimp only at h
  split at h
  · rename_i a b t1 c d
    split at h
    · rename_i ht; cases h; have ht1 := ht; obtain rfl := ba_eq ht1; exact S.Slt_sim a b c d
    · cases h
  · cases h
def S.Sle_0 (a b c d : Int) : Int := (bif S.Empty a b then (1) else (bif S.Empty c d then (1) else (S.of_0 a (if true = true then if d < b then d else b else if d > b then d else b))))
def S.Sle_1 (a b c d : Int) : Int := (bif S.Empty a b then (0) else (bif S.Empty c d then (0) else (S.of_1 a (if true = true then if d < b then d else b else if d > b then d else b))))
theorem S.Sle_sim (a b c d : Int) : Sim prog 21 [.agg [.int true .i64 a, .int true .i64 b], .str true ⟨#[60, 61]⟩, .agg [.int true .i64 c, .int true .i64 d]] [] (.agg [.int true .i64 (S.Sle_0 a b c d), .int true .i64 (S.Sle_1 a b c d)]) [] := by
 refine Sim.rng fun hrng => ?_
 try simp only [rngL, rngV, kLo, kHi] at hrng
 refine Sim.args (args' := [.agg [.int true .i64 a, .int true .i64 b], .str false ⟨#[60, 61]⟩, .agg [.int true .i64 c, .int true .i64 d]]) ?_ (.cons (Says.refl _) (.cons (Says.str rfl) (.cons (Says.refl _) (.nil))))
 rcases Bool.eq_false_or_eq_true (S.Empty a b) with h0 | h0
 ·
  exact (sim_run (S.hE S.o_Slt_ok) (show run _ 21 [.agg [.int true .i64 a, .int true .i64 b], .str false ⟨#[60, 61]⟩, .agg [.int true .i64 c, .int true .i64 d]] [] [.br true] = some (True ∧ S.Empty a b = true, .agg [.int false .i64 1, .int false .i64 0], []) by kernel_rfl) ⟨trivial, h0⟩).says (Says.agg (.cons (Says.int (by simp only [S.Sle_0, h0, cond_true, cond_false])) (.cons (Says.int (by simp only [S.Sle_1, h0, cond_true, cond_false])) (.nil))))
 ·
  rcases Bool.eq_false_or_eq_true (S.Empty c d) with h1 | h1
  ·
   exact (sim_run (S.hE S.o_Slt_ok) (show run _ 21 [.agg [.int true .i64 a, .int true .i64 b], .str false ⟨#[60, 61]⟩, .agg [.int true .i64 c, .int true .i64 d]] [] [.br false, .br true] = some ((True ∧ S.Empty a b = false) ∧ S.Empty c d = true, .agg [.int false .i64 1, .int false .i64 0], []) by kernel_rfl) ⟨⟨trivial, h0⟩, h1⟩).says (Says.agg (.cons (Says.int (by simp only [S.Sle_0, h1, h0, cond_true, cond_false])) (.cons (Says.int (by simp only [S.Sle_1, h1, h0, cond_true, cond_false])) (.nil))))
  ·
   exact (sim_run (S.hE S.o_Slt_ok) (show run _ 21 [.agg [.int true .i64 a, .int true .i64 b], .str false ⟨#[60, 61]⟩, .agg [.int true .i64 c, .int true .i64 d]] [] [.br false, .br false] = some ((True ∧ S.Empty a b = false) ∧ S.Empty c d = false, .agg [.int true .i64 (S.of_0 a (if true = true then if d < b then d else b else if d > b then d else b)), .int true .i64 (S.of_1 a (if true = true then if d < b then d else b else if d > b then d else b))], []) by kernel_rfl) ⟨⟨trivial, h0⟩, h1⟩).says (Says.agg (.cons (Says.int (by simp only [S.Sle_0, h1, h0, cond_true, cond_false])) (.cons (Says.int (by simp only [S.Sle_1, h1, h0, cond_true, cond_false])) (.nil))))
def S.o_Sle : Orc := orcAdd 21 (fun | [.agg [.int true .i64 a, .int true .i64 b], .str true t1, .agg [.int true .i64 c, .int true .i64 d]] => (match t1.data.toList == [60, 61] with | true => some (.agg [.int true .i64 (S.Sle_0 a b c d), .int true .i64 (S.Sle_1 a b c d)]) | false => none) | _ => none) S.o_Slt
theorem S.o_Sle_ok : OrcOk prog S.o_Sle := orcAdd_ok S.o_Slt_ok fun a v h => by
  try dsimp only at h
  split at h
  · rename_i a b t1 c d
    split at h
    · rename_i ht; cases h; have ht1 := ht; obtain rfl := ba_eq ht1; exact S.Sle_sim a b c d
    · cases h
  · cases h
def S.Sgt_0 (a b c d : Int) : Int := (bif S.Empty a b then (1) else (bif S.Empty c d then (1) else (bif c == 9223372036854775807 then (1) else (S.of_0 (if false = true then if IntKind.wrap .i64 (c + 1) < a then IntKind.wrap .i64 (c + 1) else a else if IntKind.wrap .i64 (c + 1) > a then IntKind.wrap .i64 (c + 1) else a) b))))
def S.Sgt_1 (a b c d : Int) : Int := (bif S.Empty a b then (0) else (bif S.Empty c d then (0) else (bif c == 9223372036854775807 then (0) else (S.of_1 (if false = true then if IntKind.wrap .i64 (c + 1) < a then IntKind.wrap .i64 (c + 1) else a else if IntKind.wrap .i64 (c + 1) > a then IntKind.wrap .i64 (c + 1) else a) b))))
theorem S.Sgt_sim (a b c d : Int) : Sim prog 21 [.agg [.int true .i64 a, .int true .i64 b], .str true ⟨#[62]⟩, .agg [.int true .i64 c, .int true .i64 d]] [] (.agg [.int true .i64 (S.Sgt_0 a b c d), .int true .i64 (S.Sgt_1 a b c d)]) [] := by
 refine Sim.rng fun hrng => ?_
 try simp only [rngL, rngV, kLo, kHi] at hrng
 refine Sim.args (args' := [.agg [.int true .i64 a, .int true .i64 b], .str false ⟨#[62]⟩, .agg [.int true .i64 c, .int true .i64 d]]) ?_ (.cons (Says.refl _) (.cons (Says.str rfl) (.cons (Says.refl _) (.nil))))
 rcases Bool.eq_false_or_eq_true (S.Empty a b) with h0 | h0
 ·
  exact (sim_run (S.hE S.o_Sle_ok) (show run _ 21 [.agg [.int true .i64 a, .int true .i64 b], .str false ⟨#[62]⟩, .agg [.int true .i64 c, .int true .i64 d]] [] [.br true] = some (True ∧ S.Empty a b = true, .agg [.int false .i64 1, .int false .i64 0], []) by kernel_rfl) ⟨trivial, h0⟩).says (Says.agg (.cons (Says.int (by simp only [S.Sgt_0, h0, cond_true, cond_false])) (.cons (Says.int (by simp only [S.Sgt_1, h0, cond_true, cond_false])) (.nil))))
 ·
  rcases Bool.eq_false_or_eq_true (S.Empty c d) with h1 | h1
  ·
   exact (sim_run (S.hE S.o_Sle_ok) (show run _ 21 [.agg [.int true .i64 a, .int true .i64 b], .str false ⟨#[62]⟩, .agg [.int true .i64 c, .int true .i64 d]] [] [.br false, .br true] = some ((True ∧ S.Empty a b = false) ∧ S.Empty c d = true, .agg [.int false .i64 1, .int false .i64 0], []) by kernel_rfl) ⟨⟨trivial, h0⟩, h1⟩).says (Says.agg (.cons (Says.int (by simp only [S.Sgt_0, h1, h0, cond_true, cond_false])) (.cons (Says.int (by simp only [S.Sgt_1, h1, h0, cond_true, cond_false])) (.nil))))
  ·
   rcases Bool.eq_false_or_eq_true (c == 9223372036854775807) with h2 | h2
   ·
    exact (sim_run (S.hE S.o_Sle_ok) (show run _ 21 [.agg [.int true .i64 a, .int true .i64 b], .str false ⟨#[62]⟩, .agg [.int true .i64 c, .int true .i64 d]] [] [.br false, .br false, .br true] = some (((True ∧ S.Empty a b = false) ∧ S.Empty c d = false) ∧ (c == 9223372036854775807) = true, .agg [.int false .i64 1, .int false .i64 0], []) by kernel_rfl) ⟨⟨⟨trivial, h0⟩, h1⟩, h2⟩).says (Says.agg (.cons (Says.int (by simp only [S.Sgt_0, h2, h1, h0, cond_true, cond_false])) (.cons (Says.int (by simp only [S.Sgt_1, h2, h1, h0, cond_true, cond_false])) (.nil))))
   ·
    exact (sim_run (S.hE S.o_Sle_ok) (show run _ 21 [.agg [.int true .i64 a, .int true .i64 b], .str false ⟨#[62]⟩, .agg [.int true .i64 c, .int true .i64 d]] [] [.br false, .br false, .br false] = some (((True ∧ S.Empty a b = false) ∧ S.Empty c d = false) ∧ (c == 9223372036854775807) = false, .agg [.int true .i64 (S.of_0 (if false = true then if IntKind.wrap .i64 (c + 1) < a then IntKind.wrap .i64 (c + 1) else a else if IntKind.wrap .i64 (c + 1) > a then IntKind.wrap .i64 (c + 1) else a) b), .int true .i64 (S.of_1 (if false = true then if IntKind.wrap .i64 (c + 1) < a then IntKind.wrap .i64 (c + 1) else a else if IntKind.wrap .i64 (c + 1) > a then IntKind.wrap .i64 (c + 1) else a) b)], []) by kernel_rfl) ⟨⟨⟨trivial, h0⟩, h1⟩, h2⟩).says (Says.agg (.cons (Says.int (by simp only [S.Sgt_0, h2, h1, h0, cond_true, cond_false])) (.cons (Says.int (by simp only [S.Sgt_1, h2, h1, h0, cond_true, cond_false])) (.nil))))
def S.o_Sgt : Orc := orcAdd 21 (fun | [.agg [.int true .i64 a, .int true .i64 b], .str true t1, .agg [.int true .i64 c, .int true .i64 d]] => (match t1.data.toList == [62] with | true => some (.agg [.int true .i64 (S.Sgt_0 a b c d), .int true .i64 (S.Sgt_1 a b c d)]) | false => none) | _ => none) S.o_Sle
theorem S.o_Sgt_ok : OrcOk prog S.o_Sgt := orcAdd_ok S.o_Sle_ok fun a v h => by
  try dsimp only at h
  split at h
  · rename_i a b t1 c d
    split at h
    · rename_i ht; cases h; have ht1 := ht; obtain rfl := ba_eq ht1; exact S.Sgt_sim a b c d
    · cases h
  · cases h
def S.Sge_0 (a b c d : Int) : Int := (bif S.Empty a b then (1) else (bif S.Empty c d then (1) else (S.of_0 (if false = true then if c < a then c else a else if c > a then c else a) b)))
def S.Sge_1 (a b c d : Int) : Int := (bif S.Empty a b then (0) else (bif S.Empty c d then (0) else (S.of_1 (if false = true then if c < a then c else a else if c > a then c else a) b)))
theorem S.Sge_sim (a b c d : Int) : Sim prog 21 [.agg [.int true .i64 a, .int true .i64 b], .str true ⟨#[62, 61]⟩, .agg [.int true .i64 c, .int true .i64 d]] [] (.agg [.int true .i64 (S.Sge_0 a b c d), .int true .i64 (S.Sge_1 a b c d)]) [] := by
 refine Sim.rng fun hrng => ?_
 try simp only [rngL, rngV, kLo, kHi] at hrng
 refine Sim.args (args' := [.agg [.int true .i64 a, .int true .i64 b], .str false ⟨#[62, 61]⟩, .agg [.int true .i64 c, .int true .i64 d]]) ?_ (.cons (Says.refl _) (.cons (Says.str rfl) (.cons (Says.refl _) (.nil))))
 rcases Bool.eq_false_or_eq_true (S.Empty a b) with h0 | h0
 ·
  exact (sim_run (S.hE S.o_Sgt_ok) (show run _ 21 [.agg [.int true .i64 a, .int true .i64 b], .str false ⟨#[62, 61]⟩, .agg [.int true .i64 c, .int true .i64 d]] [] [.br true] = some (True ∧ S.Empty a b = true, .agg [.int false .i64 1, .int false .i64 0], []) by kernel_rfl) ⟨trivial, h0⟩).says (Says.agg (.cons (Says.int (by simp only [S.Sge_0, h0, cond_true, cond_false])) (.cons (Says.int (by simp only [S.Sge_1, h0, cond_true, cond_false])) (.nil))))
 ·
  rcases Bool.eq_false_or_eq_true (S.Empty c d) with h1 | h1
  ·
   exact (sim_run (S.hE S.o_Sgt_ok) (show run _ 21 [.agg [.int true .i64 a, .int true .i64 b], .str false ⟨#[62, 61]⟩, .agg [.int true .i64 c, .int true .i64 d]] [] [.br false, .br true] = some ((True ∧ S.Empty a b = false) ∧ S.Empty c d = true, .agg [.int false .i64 1, .int false .i64 0], []) by kernel_rfl) ⟨⟨trivial, h0⟩, h1⟩).says (Says.agg (.cons (Says.int (by simp only [S.Sge_0, h1, h0, cond_true, cond_false])) (.cons (Says.int (by simp only [S.Sge_1, h1, h0, cond_true, cond_false])) (.nil))))
  ·
   exact (sim_run (S.hE S.o_Sgt_ok) (show run _ 21 [.agg [.int true .i64 a, .int true .i64 b], .str false ⟨#[62, 61]⟩, .agg [.int true .i64 c, .int true .i64 d]] [] [.br false, .br false] = some ((True ∧ S.Empty a b = false) ∧ S.Empty c d = false, .agg [.int true .i64 (S.of_0 (if false = true then if c < a then c else a else if c > a then c else a) b), .int true .i64 (S.of_1 (if false = true then if c < a then c else a else if c > a then c else a) b)], []) by kernel_rfl) ⟨⟨trivial, h0⟩, h1⟩).says (Says.agg (.cons (Says.int (by simp only [S.Sge_0, h1, h0, cond_true, cond_false])) (.cons (Says.int (by simp only [S.Sge_1, h1, h0, cond_true, cond_false])) (.nil))))
def S.o_Sge : Orc := orcAdd 21 (fun | [.agg [.int true .i64 a, .int true .i64 b], .str true t1, .agg [.int true .i64 c, .int true .i64 d]] => (match t1.data.toList == [62, 61] with | true => some (.agg [.int true .i64 (S.Sge_0 a b c d), .int true .i64 (S.Sge_1 a b c d)]) | false => none) | _ => none) S.o_Sgt
theorem S.o_Sge_ok : OrcOk prog S.o_Sge := orcAdd_ok S.o_Sgt_ok fun a v h => by
  try dsimp only at h
  split at h
  · rename_i a b t1 c d
    split at h
    · rename_i ht; cases h; have ht1 := ht; obtain rfl := ba_eq ht1; exact S.Sge_sim a b c d
    · cases h
  · cases h
def S.Seq_0 (a b c d : Int) : Int := (bif S.Empty a b then (1) else (bif S.Empty c d then (1) else (S.Meet_0 a b c d)))
def S.Seq_1 (a b c d : Int) : Int := (bif S.Empty a b then (0) else (bif S.Empty c d then (0) else (S.Meet_1 a b c d)))
theorem S.Seq_sim (a b c d : Int) : Sim prog 21 [.agg [.int true .i64 a, .int true .i64 b], .str true ⟨#[61, 61]⟩, .agg [.int true .i64 c, .int true .i64 d]] [] (.agg [.int true .i64 (S.Seq_0 a b c d), .int true .i64 (S.Seq_1 a b c d)]) [] := by
 refine Sim.rng fun hrng => ?_
 try simp only [rngL, rngV, kLo, kHi] at hrng
 refine Sim.args (args' := [.agg [.int true .i64 a, .int true .i64 b], .str false ⟨#[61, 61]⟩, .agg [.int true .i64 c, .int true .i64 d]]) ?_ (.cons (Says.refl _) (.cons (Says.str rfl) (.cons (Says.refl _) (.nil))))
 rcases Bool.eq_false_or_eq_true (S.Empty a b) with h0 | h0
 ·
  exact (sim_run (S.hE S.o_Sge_ok) (show run _ 21 [.agg [.int true .i64 a, .int true .i64 b], .str false ⟨#[61, 61]⟩, .agg [.int true .i64 c, .int true .i64 d]] [] [.br true] = some (True ∧ S.Empty a b = true, .agg [.int false .i64 1, .int false .i64 0], []) by kernel_rfl) ⟨trivial, h0⟩).says (Says.agg (.cons (Says.int (by simp only [S.Seq_0, h0, cond_true, cond_false])) (.cons (Says.int (by simp only [S.Seq_1, h0, cond_true, cond_false])) (.nil))))
 ·
  rcases Bool.eq_false_or_eq_true (S.Empty c d) with h1 | h1
  ·
   exact (sim_run (S.hE S.o_Sge_ok) (show run _ 21 [.agg [.int true .i64 a, .int true .i64 b], .str false ⟨#[61, 61]⟩, .agg [.int true .i64 c, .int true .i64 d]] [] [.br false, .br true] = some ((True ∧ S.Empty a b = false) ∧ S.Empty c d = true, .agg [.int false .i64 1, .int false .i64 0], []) by kernel_rfl) ⟨⟨trivial, h0⟩, h1⟩).says (Says.agg (.cons (Says.int (by simp only [S.Seq_0, h1, h0, cond_true, cond_false])) (.cons (Says.int (by simp only [S.Seq_1, h1, h0, cond_true, cond_false])) (.nil))))
  ·
   exact (sim_run (S.hE S.o_Sge_ok) (show run _ 21 [.agg [.int true .i64 a, .int true .i64 b], .str false ⟨#[61, 61]⟩, .agg [.int true .i64 c, .int true .i64 d]] [] [.br false, .br false] = some ((True ∧ S.Empty a b = false) ∧ S.Empty c d = false, .agg [.int true .i64 (S.Meet_0 a b c d), .int true .i64 (S.Meet_1 a b c d)], []) by kernel_rfl) ⟨⟨trivial, h0⟩, h1⟩).says (Says.agg (.cons (Says.int (by simp only [S.Seq_0, h1, h0, cond_true, cond_false])) (.cons (Says.int (by simp only [S.Seq_1, h1, h0, cond_true, cond_false])) (.nil))))
def S.o_Seq : Orc := orcAdd 21 (fun | [.agg [.int true .i64 a, .int true .i64 b], .str true t1, .agg [.int true .i64 c, .int true .i64 d]] => (match t1.data.toList == [61, 61] with | true => some (.agg [.int true .i64 (S.Seq_0 a b c d), .int true .i64 (S.Seq_1 a b c d)]) | false => none) | _ => none) S.o_Sge
theorem S.o_Seq_ok : OrcOk prog S.o_Seq := orcAdd_ok S.o_Sge_ok fun a v h => by
  try dsimp only at h
  split at h
  · rename_i a b t1 c d
    split at h
    · rename_i ht; cases h; have ht1 := ht; obtain rfl := ba_eq ht1; exact S.Seq_sim a b c d
    · cases h
  · cases h
def S.Sne_0 (a b c d : Int) : Int := (bif S.Empty a b then (1) else (bif S.Empty c d then (1) else (bif !S.One_1 c d then (a) else (bif S.One_0 c d == a then (bif S.One_0 c d == b then (1) else (IntKind.wrap .i64 (a + 1))) else (a)))))
def S.Sne_1 (a b c d : Int) : Int := (bif S.Empty a b then (0) else (bif S.Empty c d then (0) else (bif !S.One_1 c d then (b) else (bif S.One_0 c d == a then (bif S.One_0 c d == b then (0) else (b)) else (bif S.One_0 c d == b then (IntKind.wrap .i64 (b - 1)) else (b))))))
theorem S.Sne_sim (a b c d : Int) : Sim prog 21 [.agg [.int true .i64 a, .int true .i64 b], .str true ⟨#[33, 61]⟩, .agg [.int true .i64 c, .int true .i64 d]] [] (.agg [.int true .i64 (S.Sne_0 a b c d), .int true .i64 (S.Sne_1 a b c d)]) [] := by
 refine Sim.rng fun hrng => ?_
 try simp only [rngL, rngV, kLo, kHi] at hrng
 refine Sim.args (args' := [.agg [.int true .i64 a, .int true .i64 b], .str false ⟨#[33, 61]⟩, .agg [.int true .i64 c, .int true .i64 d]]) ?_ (.cons (Says.refl _) (.cons (Says.str rfl) (.cons (Says.refl _) (.nil))))
 rcases Bool.eq_false_or_eq_true (S.Empty a b) with h0 | h0
 ·
  exact (sim_run (S.hE S.o_Seq_ok) (show run _ 21 [.agg [.int true .i64 a, .int true .i64 b], .str false ⟨#[33, 61]⟩, .agg [.int true .i64 c, .int true .i64 d]] [] [.br true] = some (True ∧ S.Empty a b = true, .agg [.int false .i64 1, .int false .i64 0], []) by kernel_rfl) ⟨trivial, h0⟩).says (Says.agg (.cons (Says.int (by simp only [S.Sne_0, h0, cond_true, cond_false])) (.cons (Says.int (by simp only [S.Sne_1, h0, cond_true, cond_false])) (.nil))))
 ·
  rcases Bool.eq_false_or_eq_true (S.Empty c d) with h1 | h1
  ·
   exact (sim_run (S.hE S.o_Seq_ok) (show run _ 21 [.agg [.int true .i64 a, .int true .i64 b], .str false ⟨#[33, 61]⟩, .agg [.int true .i64 c, .int true .i64 d]] [] [.br false, .br true] = some ((True ∧ S.Empty a b = false) ∧ S.Empty c d = true, .agg [.int false .i64 1, .int false .i64 0], []) by kernel_rfl) ⟨⟨trivial, h0⟩, h1⟩).says (Says.agg (.cons (Says.int (by simp only [S.Sne_0, h1, h0, cond_true, cond_false])) (.cons (Says.int (by simp only [S.Sne_1, h1, h0, cond_true, cond_false])) (.nil))))
  ·
   rcases Bool.eq_false_or_eq_true (!S.One_1 c d) with h2 | h2
   ·
    exact (sim_run (S.hE S.o_Seq_ok) (show run _ 21 [.agg [.int true .i64 a, .int true .i64 b], .str false ⟨#[33, 61]⟩, .agg [.int true .i64 c, .int true .i64 d]] [] [.br false, .br false, .br true] = some (((True ∧ S.Empty a b = false) ∧ S.Empty c d = false) ∧ (!S.One_1 c d) = true, .agg [.int true .i64 a, .int true .i64 b], []) by kernel_rfl) ⟨⟨⟨trivial, h0⟩, h1⟩, h2⟩).says (Says.agg (.cons (Says.int (by simp only [S.Sne_0, h2, h1, h0, cond_true, cond_false])) (.cons (Says.int (by simp only [S.Sne_1, h2, h1, h0, cond_true, cond_false])) (.nil))))
   ·
    rcases Bool.eq_false_or_eq_true (S.One_0 c d == a) with h3 | h3
    ·
     rcases Bool.eq_false_or_eq_true (S.One_0 c d == b) with h4 | h4
     ·
      exact (sim_run (S.hE S.o_Seq_ok) (show run _ 21 [.agg [.int true .i64 a, .int true .i64 b], .str false ⟨#[33, 61]⟩, .agg [.int true .i64 c, .int true .i64 d]] [] [.br false, .br false, .br false, .br true, .br true] = some (((((True ∧ S.Empty a b = false) ∧ S.Empty c d = false) ∧ (!S.One_1 c d) = false) ∧ (S.One_0 c d == a) = true) ∧ (S.One_0 c d == b) = true, .agg [.int false .i64 1, .int false .i64 0], []) by kernel_rfl) ⟨⟨⟨⟨⟨trivial, h0⟩, h1⟩, h2⟩, h3⟩, h4⟩).says (Says.agg (.cons (Says.int (by simp only [S.Sne_0, h4, h3, h2, h1, h0, cond_true, cond_false])) (.cons (Says.int (by simp only [S.Sne_1, h4, h3, h2, h1, h0, cond_true, cond_false])) (.nil))))
     ·
      exact (sim_run (S.hE S.o_Seq_ok) (show run _ 21 [.agg [.int true .i64 a, .int true .i64 b], .str false ⟨#[33, 61]⟩, .agg [.int true .i64 c, .int true .i64 d]] [] [.br false, .br false, .br false, .br true, .br false, .br true] = some ((((((True ∧ S.Empty a b = false) ∧ S.Empty c d = false) ∧ (!S.One_1 c d) = false) ∧ (S.One_0 c d == a) = true) ∧ (S.One_0 c d == b) = false) ∧ (S.One_0 c d == a) = true, .agg [.int true .i64 (IntKind.wrap .i64 (a + 1)), .int true .i64 b], []) by kernel_rfl) ⟨⟨⟨⟨⟨⟨trivial, h0⟩, h1⟩, h2⟩, h3⟩, h4⟩, h3⟩).says (Says.agg (.cons (Says.int (by simp only [S.Sne_0, h4, h3, h2, h1, h0, cond_true, cond_false])) (.cons (Says.int (by simp only [S.Sne_1, h4, h3, h2, h1, h0, cond_true, cond_false])) (.nil))))
    ·
     rcases Bool.eq_false_or_eq_true (S.One_0 c d == b) with h4 | h4
     ·
      exact (sim_run (S.hE S.o_Seq_ok) (show run _ 21 [.agg [.int true .i64 a, .int true .i64 b], .str false ⟨#[33, 61]⟩, .agg [.int true .i64 c, .int true .i64 d]] [] [.br false, .br false, .br false, .br false, .br false, .br true] = some ((((((True ∧ S.Empty a b = false) ∧ S.Empty c d = false) ∧ (!S.One_1 c d) = false) ∧ (S.One_0 c d == a) = false) ∧ (S.One_0 c d == a) = false) ∧ (S.One_0 c d == b) = true, .agg [.int true .i64 a, .int true .i64 (IntKind.wrap .i64 (b - 1))], []) by kernel_rfl) ⟨⟨⟨⟨⟨⟨trivial, h0⟩, h1⟩, h2⟩, h3⟩, h3⟩, h4⟩).says (Says.agg (.cons (Says.int (by simp only [S.Sne_0, h4, h3, h2, h1, h0, cond_true, cond_false])) (.cons (Says.int (by simp only [S.Sne_1, h4, h3, h2, h1, h0, cond_true, cond_false])) (.nil))))
     ·
      exact (sim_run (S.hE S.o_Seq_ok) (show run _ 21 [.agg [.int true .i64 a, .int true .i64 b], .str false ⟨#[33, 61]⟩, .agg [.int true .i64 c, .int true .i64 d]] [] [.br false, .br false, .br false, .br false, .br false, .br false] = some ((((((True ∧ S.Empty a b = false) ∧ S.Empty c d = false) ∧ (!S.One_1 c d) = false) ∧ (S.One_0 c d == a) = false) ∧ (S.One_0 c d == a) = false) ∧ (S.One_0 c d == b) = false, .agg [.int true .i64 a, .int true .i64 b], []) by kernel_rfl) ⟨⟨⟨⟨⟨⟨trivial, h0⟩, h1⟩, h2⟩, h3⟩, h3⟩, h4⟩).says (Says.agg (.cons (Says.int (by simp only [S.Sne_0, h4, h3, h2, h1, h0, cond_true, cond_false])) (.cons (Says.int (by simp only [S.Sne_1, h4, h3, h2, h1, h0, cond_true, cond_false])) (.nil))))
def S.o_Sne : Orc := orcAdd 21 (fun | [.agg [.int true .i64 a, .int true .i64 b], .str true t1, .agg [.int true .i64 c, .int true .i64 d]] => (match t1.data.toList == [33, 61] with | true => some (.agg [.int true .i64 (S.Sne_0 a b c d), .int true .i64 (S.Sne_1 a b c d)]) | false => none) | _ => none) S.o_Seq
theorem S.o_Sne_ok : OrcOk prog S.o_Sne := orcAdd_ok S.o_Seq_ok fun a v h => by
  try dsimp only at h
  split at h
  · rename_i a b t1 c d
    split at h
    · rename_i ht; cases h; have ht1 := ht; obtain rfl := ba_eq ht1; exact S.Sne_sim a b c d
    · cases h
  · cases h
