import Derived.Test.YtobomgckeoomkaaSpG
set_option linter.unusedVariables false
set_option linter.unusedSimpArgs false
set_option maxRecDepth 100000
open Go Go.Im Go.Proofs.Try
def S.Uneg_0 (a b : Int) : Int := (bif S.Empty a b then (1) else (bif S.One_1 a b then (S.Of_0 (IntKind.wrap .i64 (0 - S.One_0 a b))) else (bif a == -9223372036854775808 then (-9223372036854775808) else (IntKind.wrap .i64 (0 - b)))))
def S.Uneg_1 (a b : Int) : Int := (bif S.Empty a b then (0) else (bif S.One_1 a b then (S.Of_1 (IntKind.wrap .i64 (0 - S.One_0 a b))) else (bif a == -9223372036854775808 then (9223372036854775807) else (IntKind.wrap .i64 (0 - a)))))
theorem S.Uneg_sim (a b : Int) : Sim prog 17 [.str true ⟨#[45]⟩, .agg [.int true .i64 a, .int true .i64 b]] [] (.agg [.int true .i64 (S.Uneg_0 a b), .int true .i64 (S.Uneg_1 a b)]) [] := by
 refine Sim.args (args' := [.str false ⟨#[45]⟩, .agg [.int true .i64 a, .int true .i64 b]]) ?_ (.cons (Says.str rfl) (.cons (Says.refl _) (.nil)))
 rcases Bool.eq_false_or_eq_true (S.Empty a b) with h0 | h0
 ·
  exact (sim_run (S.hE S.o_Brem_ok) (show run _ 17 [.str false ⟨#[45]⟩, .agg [.int true .i64 a, .int true .i64 b]] [] [.br true] = some (True ∧ S.Empty a b = true, .agg [.int false .i64 1, .int false .i64 0], []) by kernel_rfl) ⟨trivial, h0⟩).says (Says.agg (.cons (Says.int (by simp only [S.Uneg_0, h0, cond_true, cond_false])) (.cons (Says.int (by simp only [S.Uneg_1, h0, cond_true, cond_false])) (.nil))))
 ·
  rcases Bool.eq_false_or_eq_true (S.One_1 a b) with h1 | h1
  ·
   exact (sim_run (S.hE S.o_Brem_ok) (show run _ 17 [.str false ⟨#[45]⟩, .agg [.int true .i64 a, .int true .i64 b]] [] [.br false, .br true] = some ((True ∧ S.Empty a b = false) ∧ S.One_1 a b = true, .agg [.int true .i64 (S.Of_0 (IntKind.wrap .i64 (0 - S.One_0 a b))), .int true .i64 (S.Of_1 (IntKind.wrap .i64 (0 - S.One_0 a b)))], []) by kernel_rfl) ⟨⟨trivial, h0⟩, h1⟩).says (Says.agg (.cons (Says.int (by simp only [S.Uneg_0, h1, h0, cond_true, cond_false])) (.cons (Says.int (by simp only [S.Uneg_1, h1, h0, cond_true, cond_false])) (.nil))))
  ·
   rcases Bool.eq_false_or_eq_true (a == -9223372036854775808) with h2 | h2
   ·
    exact (sim_run (S.hE S.o_Brem_ok) (show run _ 17 [.str false ⟨#[45]⟩, .agg [.int true .i64 a, .int true .i64 b]] [] [.br false, .br false, .br true] = some (((True ∧ S.Empty a b = false) ∧ S.One_1 a b = false) ∧ (a == -9223372036854775808) = true, .agg [.int false .i64 (-9223372036854775808), .int false .i64 9223372036854775807], []) by kernel_rfl) ⟨⟨⟨trivial, h0⟩, h1⟩, h2⟩).says (Says.agg (.cons (Says.int (by simp only [S.Uneg_0, h2, h1, h0, cond_true, cond_false])) (.cons (Says.int (by simp only [S.Uneg_1, h2, h1, h0, cond_true, cond_false])) (.nil))))
   ·
    exact (sim_run (S.hE S.o_Brem_ok) (show run _ 17 [.str false ⟨#[45]⟩, .agg [.int true .i64 a, .int true .i64 b]] [] [.br false, .br false, .br false] = some (((True ∧ S.Empty a b = false) ∧ S.One_1 a b = false) ∧ (a == -9223372036854775808) = false, .agg [.int true .i64 (IntKind.wrap .i64 (0 - b)), .int true .i64 (IntKind.wrap .i64 (0 - a))], []) by kernel_rfl) ⟨⟨⟨trivial, h0⟩, h1⟩, h2⟩).says (Says.agg (.cons (Says.int (by simp only [S.Uneg_0, h2, h1, h0, cond_true, cond_false])) (.cons (Says.int (by simp only [S.Uneg_1, h2, h1, h0, cond_true, cond_false])) (.nil))))
def S.o_Uneg : Orc := orcAdd 17 (fun | [.str true t0, .agg [.int true .i64 a, .int true .i64 b]] => (match t0.data.toList == [45] with | true => some (.agg [.int true .i64 (S.Uneg_0 a b), .int true .i64 (S.Uneg_1 a b)]) | false => none) | _ => none) S.o_Brem
theorem S.o_Uneg_ok : OrcOk prog S.o_Uneg := orcAdd_ok S.o_Brem_ok fun a v h => by
  try dsimp only at h
  split at h
  · rename_i t0 a b
    split at h
    · rename_i ht; cases h; have ht0 := ht; obtain rfl := ba_eq ht0; exact S.Uneg_sim a b
    · cases h
  · cases h
def S.Unot_0 (a b : Int) : Int := (bif S.Empty a b then (1) else (IntKind.wrap .i64 ↑(BitVec.toNat (BitVec.ofInt (IntKind.bits .i64) (if IntKind.signed .i64 = true then -1 else IntKind.max .i64) ^^^ BitVec.ofInt (IntKind.bits .i64) b))))
def S.Unot_1 (a b : Int) : Int := (bif S.Empty a b then (0) else (IntKind.wrap .i64 ↑(BitVec.toNat (BitVec.ofInt (IntKind.bits .i64) (if IntKind.signed .i64 = true then -1 else IntKind.max .i64) ^^^ BitVec.ofInt (IntKind.bits .i64) a))))
theorem S.Unot_sim (a b : Int) : Sim prog 17 [.str true ⟨#[126]⟩, .agg [.int true .i64 a, .int true .i64 b]] [] (.agg [.int true .i64 (S.Unot_0 a b), .int true .i64 (S.Unot_1 a b)]) [] := by
 refine Sim.args (args' := [.str false ⟨#[126]⟩, .agg [.int true .i64 a, .int true .i64 b]]) ?_ (.cons (Says.str rfl) (.cons (Says.refl _) (.nil)))
 rcases Bool.eq_false_or_eq_true (S.Empty a b) with h0 | h0
 ·
  exact (sim_run (S.hE S.o_Uneg_ok) (show run _ 17 [.str false ⟨#[126]⟩, .agg [.int true .i64 a, .int true .i64 b]] [] [.br true] = some (True ∧ S.Empty a b = true, .agg [.int false .i64 1, .int false .i64 0], []) by kernel_rfl) ⟨trivial, h0⟩).says (Says.agg (.cons (Says.int (by simp only [S.Unot_0, h0, cond_true, cond_false])) (.cons (Says.int (by simp only [S.Unot_1, h0, cond_true, cond_false])) (.nil))))
 ·
  exact (sim_run (S.hE S.o_Uneg_ok) (show run _ 17 [.str false ⟨#[126]⟩, .agg [.int true .i64 a, .int true .i64 b]] [] [.br false] = some (True ∧ S.Empty a b = false, .agg [.int true .i64 (IntKind.wrap .i64 ↑(BitVec.toNat (BitVec.ofInt (IntKind.bits .i64) (if IntKind.signed .i64 = true then -1 else IntKind.max .i64) ^^^ BitVec.ofInt (IntKind.bits .i64) b))), .int true .i64 (IntKind.wrap .i64 ↑(BitVec.toNat (BitVec.ofInt (IntKind.bits .i64) (if IntKind.signed .i64 = true then -1 else IntKind.max .i64) ^^^ BitVec.ofInt (IntKind.bits .i64) a)))], []) by kernel_rfl) ⟨trivial, h0⟩).says (Says.agg (.cons (Says.int (by simp only [S.Unot_0, h0, cond_true, cond_false])) (.cons (Says.int (by simp only [S.Unot_1, h0, cond_true, cond_false])) (.nil))))
def S.o_Unot : Orc := orcAdd 17 (fun | [.str true t0, .agg [.int true .i64 a, .int true .i64 b]] => (match t0.data.toList == [126] with | true => some (.agg [.int true .i64 (S.Unot_0 a b), .int true .i64 (S.Unot_1 a b)]) | false => none) | _ => none) S.o_Uneg
theorem S.o_Unot_ok : OrcOk prog S.o_Unot := orcAdd_ok S.o_Uneg_ok fun a v h => by
  try dsimp only at h
  split at h
  · rename_i t0 a b
    split at h
    · rename_i ht; cases h; have ht0 := ht; obtain rfl := ba_eq ht0; exact S.Unot_sim a b
    · cases h
  · cases h
def S.Ubang_0 (a b : Int) : Int := (bif S.Empty a b then (1) else (IntKind.wrap .i64 (1 - S.Truth_1 a b)))
def S.Ubang_1 (a b : Int) : Int := (bif S.Empty a b then (0) else (IntKind.wrap .i64 (1 - S.Truth_0 a b)))
theorem S.Ubang_sim (a b : Int) : Sim prog 17 [.str true ⟨#[33]⟩, .agg [.int true .i64 a, .int true .i64 b]] [] (.agg [.int true .i64 (S.Ubang_0 a b), .int true .i64 (S.Ubang_1 a b)]) [] := by
 refine Sim.args (args' := [.str false ⟨#[33]⟩, .agg [.int true .i64 a, .int true .i64 b]]) ?_ (.cons (Says.str rfl) (.cons (Says.refl _) (.nil)))
 rcases Bool.eq_false_or_eq_true (S.Empty a b) with h0 | h0
 ·
  exact (sim_run (S.hE S.o_Unot_ok) (show run _ 17 [.str false ⟨#[33]⟩, .agg [.int true .i64 a, .int true .i64 b]] [] [.br true] = some (True ∧ S.Empty a b = true, .agg [.int false .i64 1, .int false .i64 0], []) by kernel_rfl) ⟨trivial, h0⟩).says (Says.agg (.cons (Says.int (by simp only [S.Ubang_0, h0, cond_true, cond_false])) (.cons (Says.int (by simp only [S.Ubang_1, h0, cond_true, cond_false])) (.nil))))
 ·
  exact (sim_run (S.hE S.o_Unot_ok) (show run _ 17 [.str false ⟨#[33]⟩, .agg [.int true .i64 a, .int true .i64 b]] [] [.br false] = some (True ∧ S.Empty a b = false, .agg [.int true .i64 (IntKind.wrap .i64 (1 - S.Truth_1 a b)), .int true .i64 (IntKind.wrap .i64 (1 - S.Truth_0 a b))], []) by kernel_rfl) ⟨trivial, h0⟩).says (Says.agg (.cons (Says.int (by simp only [S.Ubang_0, h0, cond_true, cond_false])) (.cons (Says.int (by simp only [S.Ubang_1, h0, cond_true, cond_false])) (.nil))))
def S.o_Ubang : Orc := orcAdd 17 (fun | [.str true t0, .agg [.int true .i64 a, .int true .i64 b]] => (match t0.data.toList == [33] with | true => some (.agg [.int true .i64 (S.Ubang_0 a b), .int true .i64 (S.Ubang_1 a b)]) | false => none) | _ => none) S.o_Unot
theorem S.o_Ubang_ok : OrcOk prog S.o_Ubang := orcAdd_ok S.o_Unot_ok fun a v h => by
  try dsimp only at h
  split at h
  · rename_i t0 a b
    split at h
    · rename_i ht; cases h; have ht0 := ht; obtain rfl := ba_eq ht0; exact S.Ubang_sim a b
    · cases h
  · cases h
def S.Uplus_0 (a b : Int) : Int := (1)
def S.Uplus_1 (a b : Int) : Int := (0)
theorem S.Uplus_sim (a b : Int) : Sim prog 17 [.str true ⟨#[43]⟩, .agg [.int true .i64 a, .int true .i64 b]] [] (.agg [.int true .i64 (S.Uplus_0 a b), .int true .i64 (S.Uplus_1 a b)]) [] := by
 refine Sim.args (args' := [.str false ⟨#[43]⟩, .agg [.int true .i64 a, .int true .i64 b]]) ?_ (.cons (Says.str rfl) (.cons (Says.refl _) (.nil)))
 rcases Bool.eq_false_or_eq_true (S.Empty a b) with h0 | h0
 ·
  exact (sim_run (S.hE S.o_Ubang_ok) (show run _ 17 [.str false ⟨#[43]⟩, .agg [.int true .i64 a, .int true .i64 b]] [] [.br true] = some (True ∧ S.Empty a b = true, .agg [.int false .i64 1, .int false .i64 0], []) by kernel_rfl) ⟨trivial, h0⟩).says (Says.agg (.cons (Says.int (by simp only [S.Uplus_0, h0, cond_true, cond_false])) (.cons (Says.int (by simp only [S.Uplus_1, h0, cond_true, cond_false])) (.nil))))
 ·
  exact (sim_run (S.hE S.o_Ubang_ok) (show run _ 17 [.str false ⟨#[43]⟩, .agg [.int true .i64 a, .int true .i64 b]] [] [.br false] = some (True ∧ S.Empty a b = false, .agg [.int false .i64 1, .int false .i64 0], []) by kernel_rfl) ⟨trivial, h0⟩).says (Says.agg (.cons (Says.int (by simp only [S.Uplus_0, h0, cond_true, cond_false])) (.cons (Says.int (by simp only [S.Uplus_1, h0, cond_true, cond_false])) (.nil))))
def S.o_Uplus : Orc := orcAdd 17 (fun | [.str true t0, .agg [.int true .i64 a, .int true .i64 b]] => (match t0.data.toList == [43] with | true => some (.agg [.int true .i64 (S.Uplus_0 a b), .int true .i64 (S.Uplus_1 a b)]) | false => none) | _ => none) S.o_Ubang
theorem S.o_Uplus_ok : OrcOk prog S.o_Uplus := orcAdd_ok S.o_Ubang_ok fun a v h => by
  try dsimp only at h
  split at h
  · rename_i t0 a b
    split at h
    · rename_i ht; cases h; have ht0 := ht; obtain rfl := ba_eq ht0; exact S.Uplus_sim a b
    · cases h
  · cases h
def S.Sone_0 (a b c d : Int) : Int := (bif S.Empty a b then (1) else (bif S.Empty c d then (1) else (bif S.One_1 a b then (bif S.One_1 c d then (bif S.Bone_1 (S.One_0 a b) (S.One_0 c d) != 0 then (1) else (S.Of_0 (S.Bone_0 (S.One_0 a b) (S.One_0 c d)))) else (S.lone_0 a b c d)) else (S.lone_0 a b c d))))
def S.Sone_1 (a b c d : Int) : Int := (bif S.Empty a b then (0) else (bif S.Empty c d then (0) else (bif S.One_1 a b then (bif S.One_1 c d then (bif S.Bone_1 (S.One_0 a b) (S.One_0 c d) != 0 then (0) else (S.Of_1 (S.Bone_0 (S.One_0 a b) (S.One_0 c d)))) else (S.lone_1 a b c d)) else (S.lone_1 a b c d))))
theorem S.Sone_sim (a b c d : Int) : Sim prog 15 [.str true ⟨#[124, 124]⟩, .agg [.int true .i64 a, .int true .i64 b], .agg [.int true .i64 c, .int true .i64 d]] [] (.agg [.int true .i64 (S.Sone_0 a b c d), .int true .i64 (S.Sone_1 a b c d)]) [] := by
 refine Sim.args (args' := [.str false ⟨#[124, 124]⟩, .agg [.int true .i64 a, .int true .i64 b], .agg [.int true .i64 c, .int true .i64 d]]) ?_ (.cons (Says.str rfl) (.cons (Says.refl _) (.cons (Says.refl _) (.nil))))
 rcases Bool.eq_false_or_eq_true (S.Empty a b) with h0 | h0
 ·
  exact (sim_run (S.hE S.o_Uplus_ok) (show run _ 15 [.str false ⟨#[124, 124]⟩, .agg [.int true .i64 a, .int true .i64 b], .agg [.int true .i64 c, .int true .i64 d]] [] [.br true] = some (True ∧ S.Empty a b = true, .agg [.int false .i64 1, .int false .i64 0], []) by kernel_rfl) ⟨trivial, h0⟩).says (Says.agg (.cons (Says.int (by simp only [S.Sone_0, h0, cond_true, cond_false])) (.cons (Says.int (by simp only [S.Sone_1, h0, cond_true, cond_false])) (.nil))))
 ·
  rcases Bool.eq_false_or_eq_true (S.Empty c d) with h1 | h1
  ·
   exact (sim_run (S.hE S.o_Uplus_ok) (show run _ 15 [.str false ⟨#[124, 124]⟩, .agg [.int true .i64 a, .int true .i64 b], .agg [.int true .i64 c, .int true .i64 d]] [] [.br false, .br true] = some ((True ∧ S.Empty a b = false) ∧ S.Empty c d = true, .agg [.int false .i64 1, .int false .i64 0], []) by kernel_rfl) ⟨⟨trivial, h0⟩, h1⟩).says (Says.agg (.cons (Says.int (by simp only [S.Sone_0, h1, h0, cond_true, cond_false])) (.cons (Says.int (by simp only [S.Sone_1, h1, h0, cond_true, cond_false])) (.nil))))
  ·
   rcases Bool.eq_false_or_eq_true (S.One_1 a b) with h2 | h2
   ·
    rcases Bool.eq_false_or_eq_true (S.One_1 c d) with h3 | h3
    ·
     rcases Bool.eq_false_or_eq_true (S.Bone_1 (S.One_0 a b) (S.One_0 c d) != 0) with h4 | h4
     ·
      exact (sim_run (S.hE S.o_Uplus_ok) (show run _ 15 [.str false ⟨#[124, 124]⟩, .agg [.int true .i64 a, .int true .i64 b], .agg [.int true .i64 c, .int true .i64 d]] [] [.br false, .br false, .br true, .br true, .br true] = some (((((True ∧ S.Empty a b = false) ∧ S.Empty c d = false) ∧ S.One_1 a b = true) ∧ S.One_1 c d = true) ∧ (S.Bone_1 (S.One_0 a b) (S.One_0 c d) != 0) = true, .agg [.int false .i64 1, .int false .i64 0], []) by kernel_rfl) ⟨⟨⟨⟨⟨trivial, h0⟩, h1⟩, h2⟩, h3⟩, h4⟩).says (Says.agg (.cons (Says.int (by simp only [S.Sone_0, h4, h3, h2, h1, h0, cond_true, cond_false])) (.cons (Says.int (by simp only [S.Sone_1, h4, h3, h2, h1, h0, cond_true, cond_false])) (.nil))))
     ·
      exact (sim_run (S.hE S.o_Uplus_ok) (show run _ 15 [.str false ⟨#[124, 124]⟩, .agg [.int true .i64 a, .int true .i64 b], .agg [.int true .i64 c, .int true .i64 d]] [] [.br false, .br false, .br true, .br true, .br false] = some (((((True ∧ S.Empty a b = false) ∧ S.Empty c d = false) ∧ S.One_1 a b = true) ∧ S.One_1 c d = true) ∧ (S.Bone_1 (S.One_0 a b) (S.One_0 c d) != 0) = false, .agg [.int true .i64 (S.Of_0 (S.Bone_0 (S.One_0 a b) (S.One_0 c d))), .int true .i64 (S.Of_1 (S.Bone_0 (S.One_0 a b) (S.One_0 c d)))], []) by kernel_rfl) ⟨⟨⟨⟨⟨trivial, h0⟩, h1⟩, h2⟩, h3⟩, h4⟩).says (Says.agg (.cons (Says.int (by simp only [S.Sone_0, h4, h3, h2, h1, h0, cond_true, cond_false])) (.cons (Says.int (by simp only [S.Sone_1, h4, h3, h2, h1, h0, cond_true, cond_false])) (.nil))))
    ·
     exact (sim_run (S.hE S.o_Uplus_ok) (show run _ 15 [.str false ⟨#[124, 124]⟩, .agg [.int true .i64 a, .int true .i64 b], .agg [.int true .i64 c, .int true .i64 d]] [] [.br false, .br false, .br true, .br false] = some ((((True ∧ S.Empty a b = false) ∧ S.Empty c d = false) ∧ S.One_1 a b = true) ∧ S.One_1 c d = false, .agg [.int true .i64 (S.lone_0 a b c d), .int true .i64 (S.lone_1 a b c d)], []) by kernel_rfl) ⟨⟨⟨⟨trivial, h0⟩, h1⟩, h2⟩, h3⟩).says (Says.agg (.cons (Says.int (by simp only [S.Sone_0, h3, h2, h1, h0, cond_true, cond_false])) (.cons (Says.int (by simp only [S.Sone_1, h3, h2, h1, h0, cond_true, cond_false])) (.nil))))
   ·
    exact (sim_run (S.hE S.o_Uplus_ok) (show run _ 15 [.str false ⟨#[124, 124]⟩, .agg [.int true .i64 a, .int true .i64 b], .agg [.int true .i64 c, .int true .i64 d]] [] [.br false, .br false, .br false] = some (((True ∧ S.Empty a b = false) ∧ S.Empty c d = false) ∧ S.One_1 a b = false, .agg [.int true .i64 (S.lone_0 a b c d), .int true .i64 (S.lone_1 a b c d)], []) by kernel_rfl) ⟨⟨⟨trivial, h0⟩, h1⟩, h2⟩).says (Says.agg (.cons (Says.int (by simp only [S.Sone_0, h2, h1, h0, cond_true, cond_false])) (.cons (Says.int (by simp only [S.Sone_1, h2, h1, h0, cond_true, cond_false])) (.nil))))
def S.o_Sone : Orc := orcAdd 15 (fun | [.str true t0, .agg [.int true .i64 a, .int true .i64 b], .agg [.int true .i64 c, .int true .i64 d]] => (match t0.data.toList == [124, 124] with | true => some (.agg [.int true .i64 (S.Sone_0 a b c d), .int true .i64 (S.Sone_1 a b c d)]) | false => none) | _ => none) S.o_Uplus
theorem S.o_Sone_ok : OrcOk prog S.o_Sone := orcAdd_ok S.o_Uplus_ok fun a v h => by
  try dsimp only at h
  split at h
  · rename_i t0 a b c d
    split at h
    · rename_i ht; cases h; have ht0 := ht; obtain rfl := ba_eq ht0; exact S.Sone_sim a b c d
    · cases h
  · cases h
def S.Sboth_0 (a b c d : Int) : Int := (bif S.Empty a b then (1) else (bif S.Empty c d then (1) else (bif S.One_1 a b then (bif S.One_1 c d then (bif S.Bboth_1 (S.One_0 a b) (S.One_0 c d) != 0 then (1) else (S.Of_0 (S.Bboth_0 (S.One_0 a b) (S.One_0 c d)))) else (S.lboth_0 a b c d)) else (S.lboth_0 a b c d))))
def S.Sboth_1 (a b c d : Int) : Int := (bif S.Empty a b then (0) else (bif S.Empty c d then (0) else (bif S.One_1 a b then (bif S.One_1 c d then (bif S.Bboth_1 (S.One_0 a b) (S.One_0 c d) != 0 then (0) else (S.Of_1 (S.Bboth_0 (S.One_0 a b) (S.One_0 c d)))) else (S.lboth_1 a b c d)) else (S.lboth_1 a b c d))))
theorem S.Sboth_sim (a b c d : Int) : Sim prog 15 [.str true ⟨#[38, 38]⟩, .agg [.int true .i64 a, .int true .i64 b], .agg [.int true .i64 c, .int true .i64 d]] [] (.agg [.int true .i64 (S.Sboth_0 a b c d), .int true .i64 (S.Sboth_1 a b c d)]) [] := by
 refine Sim.args (args' := [.str false ⟨#[38, 38]⟩, .agg [.int true .i64 a, .int true .i64 b], .agg [.int true .i64 c, .int true .i64 d]]) ?_ (.cons (Says.str rfl) (.cons (Says.refl _) (.cons (Says.refl _) (.nil))))
 rcases Bool.eq_false_or_eq_true (S.Empty a b) with h0 | h0
 ·
  exact (sim_run (S.hE S.o_Sone_ok) (show run _ 15 [.str false ⟨#[38, 38]⟩, .agg [.int true .i64 a, .int true .i64 b], .agg [.int true .i64 c, .int true .i64 d]] [] [.br true] = some (True ∧ S.Empty a b = true, .agg [.int false .i64 1, .int false .i64 0], []) by kernel_rfl) ⟨trivial, h0⟩).says (Says.agg (.cons (Says.int (by simp only [S.Sboth_0, h0, cond_true, cond_false])) (.cons (Says.int (by simp only [S.Sboth_1, h0, cond_true, cond_false])) (.nil))))
 ·
  rcases Bool.eq_false_or_eq_true (S.Empty c d) with h1 | h1
  ·
   exact (sim_run (S.hE S.o_Sone_ok) (show run _ 15 [.str false ⟨#[38, 38]⟩, .agg [.int true .i64 a, .int true .i64 b], .agg [.int true .i64 c, .int true .i64 d]] [] [.br false, .br true] = some ((True ∧ S.Empty a b = false) ∧ S.Empty c d = true, .agg [.int false .i64 1, .int false .i64 0], []) by kernel_rfl) ⟨⟨trivial, h0⟩, h1⟩).says (Says.agg (.cons (Says.int (by simp only [S.Sboth_0, h1, h0, cond_true, cond_false])) (.cons (Says.int (by simp only [S.Sboth_1, h1, h0, cond_true, cond_false])) (.nil))))
  ·
   rcases Bool.eq_false_or_eq_true (S.One_1 a b) with h2 | h2
   ·
    rcases Bool.eq_false_or_eq_true (S.One_1 c d) with h3 | h3
    ·
     rcases Bool.eq_false_or_eq_true (S.Bboth_1 (S.One_0 a b) (S.One_0 c d) != 0) with h4 | h4
     ·
      exact (sim_run (S.hE S.o_Sone_ok) (show run _ 15 [.str false ⟨#[38, 38]⟩, .agg [.int true .i64 a, .int true .i64 b], .agg [.int true .i64 c, .int true .i64 d]] [] [.br false, .br false, .br true, .br true, .br true] = some (((((True ∧ S.Empty a b = false) ∧ S.Empty c d = false) ∧ S.One_1 a b = true) ∧ S.One_1 c d = true) ∧ (S.Bboth_1 (S.One_0 a b) (S.One_0 c d) != 0) = true, .agg [.int false .i64 1, .int false .i64 0], []) by kernel_rfl) ⟨⟨⟨⟨⟨trivial, h0⟩, h1⟩, h2⟩, h3⟩, h4⟩).says (Says.agg (.cons (Says.int (by simp only [S.Sboth_0, h4, h3, h2, h1, h0, cond_true, cond_false])) (.cons (Says.int (by simp only [S.Sboth_1, h4, h3, h2, h1, h0, cond_true, cond_false])) (.nil))))
     ·
      exact (sim_run (S.hE S.o_Sone_ok) (show run _ 15 [.str false ⟨#[38, 38]⟩, .agg [.int true .i64 a, .int true .i64 b], .agg [.int true .i64 c, .int true .i64 d]] [] [.br false, .br false, .br true, .br true, .br false] = some (((((True ∧ S.Empty a b = false) ∧ S.Empty c d = false) ∧ S.One_1 a b = true) ∧ S.One_1 c d = true) ∧ (S.Bboth_1 (S.One_0 a b) (S.One_0 c d) != 0) = false, .agg [.int true .i64 (S.Of_0 (S.Bboth_0 (S.One_0 a b) (S.One_0 c d))), .int true .i64 (S.Of_1 (S.Bboth_0 (S.One_0 a b) (S.One_0 c d)))], []) by kernel_rfl) ⟨⟨⟨⟨⟨trivial, h0⟩, h1⟩, h2⟩, h3⟩, h4⟩).says (Says.agg (.cons (Says.int (by simp only [S.Sboth_0, h4, h3, h2, h1, h0, cond_true, cond_false])) (.cons (Says.int (by simp only [S.Sboth_1, h4, h3, h2, h1, h0, cond_true, cond_false])) (.nil))))
    ·
     exact (sim_run (S.hE S.o_Sone_ok) (show run _ 15 [.str false ⟨#[38, 38]⟩, .agg [.int true .i64 a, .int true .i64 b], .agg [.int true .i64 c, .int true .i64 d]] [] [.br false, .br false, .br true, .br false] = some ((((True ∧ S.Empty a b = false) ∧ S.Empty c d = false) ∧ S.One_1 a b = true) ∧ S.One_1 c d = false, .agg [.int true .i64 (S.lboth_0 a b c d), .int true .i64 (S.lboth_1 a b c d)], []) by kernel_rfl) ⟨⟨⟨⟨trivial, h0⟩, h1⟩, h2⟩, h3⟩).says (Says.agg (.cons (Says.int (by simp only [S.Sboth_0, h3, h2, h1, h0, cond_true, cond_false])) (.cons (Says.int (by simp only [S.Sboth_1, h3, h2, h1, h0, cond_true, cond_false])) (.nil))))
   ·
    exact (sim_run (S.hE S.o_Sone_ok) (show run _ 15 [.str false ⟨#[38, 38]⟩, .agg [.int true .i64 a, .int true .i64 b], .agg [.int true .i64 c, .int true .i64 d]] [] [.br false, .br false, .br false] = some (((True ∧ S.Empty a b = false) ∧ S.Empty c d = false) ∧ S.One_1 a b = false, .agg [.int true .i64 (S.lboth_0 a b c d), .int true .i64 (S.lboth_1 a b c d)], []) by kernel_rfl) ⟨⟨⟨trivial, h0⟩, h1⟩, h2⟩).says (Says.agg (.cons (Says.int (by simp only [S.Sboth_0, h2, h1, h0, cond_true, cond_false])) (.cons (Says.int (by simp only [S.Sboth_1, h2, h1, h0, cond_true, cond_false])) (.nil))))
def S.o_Sboth : Orc := orcAdd 15 (fun | [.str true t0, .agg [.int true .i64 a, .int true .i64 b], .agg [.int true .i64 c, .int true .i64 d]] => (match t0.data.toList == [38, 38] with | true => some (.agg [.int true .i64 (S.Sboth_0 a b c d), .int true .i64 (S.Sboth_1 a b c d)]) | false => none) | _ => none) S.o_Sone
theorem S.o_Sboth_ok : OrcOk prog S.o_Sboth := orcAdd_ok S.o_Sone_ok fun a v h => by
  try dsimp only at h
  split at h
  · rename_i t0 a b c d
    split at h
    · rename_i ht; cases h; have ht0 := ht; obtain rfl := ba_eq ht0; exact S.Sboth_sim a b c d
    · cases h
  · cases h
def S.Sor_0 (a b c d : Int) : Int := (bif S.Empty a b then (1) else (bif S.Empty c d then (1) else (bif S.One_1 a b then (bif S.One_1 c d then (bif S.Bor_1 (S.One_0 a b) (S.One_0 c d) != 0 then (1) else (S.Of_0 (S.Bor_0 (S.One_0 a b) (S.One_0 c d)))) else (S.wide_0 a b c d)) else (S.wide_0 a b c d))))
def S.Sor_1 (a b c d : Int) : Int := (bif S.Empty a b then (0) else (bif S.Empty c d then (0) else (bif S.One_1 a b then (bif S.One_1 c d then (bif S.Bor_1 (S.One_0 a b) (S.One_0 c d) != 0 then (0) else (S.Of_1 (S.Bor_0 (S.One_0 a b) (S.One_0 c d)))) else (S.wide_1 a b c d)) else (S.wide_1 a b c d))))
theorem S.Sor_sim (a b c d : Int) : Sim prog 15 [.str true ⟨#[124]⟩, .agg [.int true .i64 a, .int true .i64 b], .agg [.int true .i64 c, .int true .i64 d]] [] (.agg [.int true .i64 (S.Sor_0 a b c d), .int true .i64 (S.Sor_1 a b c d)]) [] := by
 refine Sim.args (args' := [.str false ⟨#[124]⟩, .agg [.int true .i64 a, .int true .i64 b], .agg [.int true .i64 c, .int true .i64 d]]) ?_ (.cons (Says.str rfl) (.cons (Says.refl _) (.cons (Says.refl _) (.nil))))
 rcases Bool.eq_false_or_eq_true (S.Empty a b) with h0 | h0
 ·
  exact (sim_run (S.hE S.o_Sboth_ok) (show run _ 15 [.str false ⟨#[124]⟩, .agg [.int true .i64 a, .int true .i64 b], .agg [.int true .i64 c, .int true .i64 d]] [] [.br true] = some (True ∧ S.Empty a b = true, .agg [.int false .i64 1, .int false .i64 0], []) by kernel_rfl) ⟨trivial, h0⟩).says (Says.agg (.cons (Says.int (by simp only [S.Sor_0, h0, cond_true, cond_false])) (.cons (Says.int (by simp only [S.Sor_1, h0, cond_true, cond_false])) (.nil))))
 ·
  rcases Bool.eq_false_or_eq_true (S.Empty c d) with h1 | h1
  ·
   exact (sim_run (S.hE S.o_Sboth_ok) (show run _ 15 [.str false ⟨#[124]⟩, .agg [.int true .i64 a, .int true .i64 b], .agg [.int true .i64 c, .int true .i64 d]] [] [.br false, .br true] = some ((True ∧ S.Empty a b = false) ∧ S.Empty c d = true, .agg [.int false .i64 1, .int false .i64 0], []) by kernel_rfl) ⟨⟨trivial, h0⟩, h1⟩).says (Says.agg (.cons (Says.int (by simp only [S.Sor_0, h1, h0, cond_true, cond_false])) (.cons (Says.int (by simp only [S.Sor_1, h1, h0, cond_true, cond_false])) (.nil))))
  ·
   rcases Bool.eq_false_or_eq_true (S.One_1 a b) with h2 | h2
   ·
    rcases Bool.eq_false_or_eq_true (S.One_1 c d) with h3 | h3
    ·
     rcases Bool.eq_false_or_eq_true (S.Bor_1 (S.One_0 a b) (S.One_0 c d) != 0) with h4 | h4
     ·
      exact (sim_run (S.hE S.o_Sboth_ok) (show run _ 15 [.str false ⟨#[124]⟩, .agg [.int true .i64 a, .int true .i64 b], .agg [.int true .i64 c, .int true .i64 d]] [] [.br false, .br false, .br true, .br true, .br true] = some (((((True ∧ S.Empty a b = false) ∧ S.Empty c d = false) ∧ S.One_1 a b = true) ∧ S.One_1 c d = true) ∧ (S.Bor_1 (S.One_0 a b) (S.One_0 c d) != 0) = true, .agg [.int false .i64 1, .int false .i64 0], []) by kernel_rfl) ⟨⟨⟨⟨⟨trivial, h0⟩, h1⟩, h2⟩, h3⟩, h4⟩).says (Says.agg (.cons (Says.int (by simp only [S.Sor_0, h4, h3, h2, h1, h0, cond_true, cond_false])) (.cons (Says.int (by simp only [S.Sor_1, h4, h3, h2, h1, h0, cond_true, cond_false])) (.nil))))
     ·
      exact (sim_run (S.hE S.o_Sboth_ok) (show run _ 15 [.str false ⟨#[124]⟩, .agg [.int true .i64 a, .int true .i64 b], .agg [.int true .i64 c, .int true .i64 d]] [] [.br false, .br false, .br true, .br true, .br false] = some (((((True ∧ S.Empty a b = false) ∧ S.Empty c d = false) ∧ S.One_1 a b = true) ∧ S.One_1 c d = true) ∧ (S.Bor_1 (S.One_0 a b) (S.One_0 c d) != 0) = false, .agg [.int true .i64 (S.Of_0 (S.Bor_0 (S.One_0 a b) (S.One_0 c d))), .int true .i64 (S.Of_1 (S.Bor_0 (S.One_0 a b) (S.One_0 c d)))], []) by kernel_rfl) ⟨⟨⟨⟨⟨trivial, h0⟩, h1⟩, h2⟩, h3⟩, h4⟩).says (Says.agg (.cons (Says.int (by simp only [S.Sor_0, h4, h3, h2, h1, h0, cond_true, cond_false])) (.cons (Says.int (by simp only [S.Sor_1, h4, h3, h2, h1, h0, cond_true, cond_false])) (.nil))))
    ·
     exact (sim_run (S.hE S.o_Sboth_ok) (show run _ 15 [.str false ⟨#[124]⟩, .agg [.int true .i64 a, .int true .i64 b], .agg [.int true .i64 c, .int true .i64 d]] [] [.br false, .br false, .br true, .br false] = some ((((True ∧ S.Empty a b = false) ∧ S.Empty c d = false) ∧ S.One_1 a b = true) ∧ S.One_1 c d = false, .agg [.int true .i64 (S.wide_0 a b c d), .int true .i64 (S.wide_1 a b c d)], []) by kernel_rfl) ⟨⟨⟨⟨trivial, h0⟩, h1⟩, h2⟩, h3⟩).says (Says.agg (.cons (Says.int (by simp only [S.Sor_0, h3, h2, h1, h0, cond_true, cond_false])) (.cons (Says.int (by simp only [S.Sor_1, h3, h2, h1, h0, cond_true, cond_false])) (.nil))))
   ·
    exact (sim_run (S.hE S.o_Sboth_ok) (show run _ 15 [.str false ⟨#[124]⟩, .agg [.int true .i64 a, .int true .i64 b], .agg [.int true .i64 c, .int true .i64 d]] [] [.br false, .br false, .br false] = some (((True ∧ S.Empty a b = false) ∧ S.Empty c d = false) ∧ S.One_1 a b = false, .agg [.int true .i64 (S.wide_0 a b c d), .int true .i64 (S.wide_1 a b c d)], []) by kernel_rfl) ⟨⟨⟨trivial, h0⟩, h1⟩, h2⟩).says (Says.agg (.cons (Says.int (by simp only [S.Sor_0, h2, h1, h0, cond_true, cond_false])) (.cons (Says.int (by simp only [S.Sor_1, h2, h1, h0, cond_true, cond_false])) (.nil))))
def S.o_Sor : Orc := orcAdd 15 (fun | [.str true t0, .agg [.int true .i64 a, .int true .i64 b], .agg [.int true .i64 c, .int true .i64 d]] => (match t0.data.toList == [124] with | true => some (.agg [.int true .i64 (S.Sor_0 a b c d), .int true .i64 (S.Sor_1 a b c d)]) | false => none) | _ => none) S.o_Sboth
theorem S.o_Sor_ok : OrcOk prog S.o_Sor := orcAdd_ok S.o_Sboth_ok fun a v h => by
  try dsimp only at h
  split at h
  · rename_i t0 a b c d
    split at h
    · rename_i ht; cases h; have ht0 := ht; obtain rfl := ba_eq ht0; exact S.Sor_sim a b c d
    · cases h
  · cases h
def S.Sxor_0 (a b c d : Int) : Int := (bif S.Empty a b then (1) else (bif S.Empty c d then (1) else (bif S.One_1 a b then (bif S.One_1 c d then (bif S.Bxor_1 (S.One_0 a b) (S.One_0 c d) != 0 then (1) else (S.Of_0 (S.Bxor_0 (S.One_0 a b) (S.One_0 c d)))) else (S.wide_0 a b c d)) else (S.wide_0 a b c d))))
def S.Sxor_1 (a b c d : Int) : Int := (bif S.Empty a b then (0) else (bif S.Empty c d then (0) else (bif S.One_1 a b then (bif S.One_1 c d then (bif S.Bxor_1 (S.One_0 a b) (S.One_0 c d) != 0 then (0) else (S.Of_1 (S.Bxor_0 (S.One_0 a b) (S.One_0 c d)))) else (S.wide_1 a b c d)) else (S.wide_1 a b c d))))
theorem S.Sxor_sim (a b c d : Int) : Sim prog 15 [.str true ⟨#[94]⟩, .agg [.int true .i64 a, .int true .i64 b], .agg [.int true .i64 c, .int true .i64 d]] [] (.agg [.int true .i64 (S.Sxor_0 a b c d), .int true .i64 (S.Sxor_1 a b c d)]) [] := by
 refine Sim.args (args' := [.str false ⟨#[94]⟩, .agg [.int true .i64 a, .int true .i64 b], .agg [.int true .i64 c, .int true .i64 d]]) ?_ (.cons (Says.str rfl) (.cons (Says.refl _) (.cons (Says.refl _) (.nil))))
 rcases Bool.eq_false_or_eq_true (S.Empty a b) with h0 | h0
 ·
  exact (sim_run (S.hE S.o_Sor_ok) (show run _ 15 [.str false ⟨#[94]⟩, .agg [.int true .i64 a, .int true .i64 b], .agg [.int true .i64 c, .int true .i64 d]] [] [.br true] = some (True ∧ S.Empty a b = true, .agg [.int false .i64 1, .int false .i64 0], []) by kernel_rfl) ⟨trivial, h0⟩).says (Says.agg (.cons (Says.int (by simp only [S.Sxor_0, h0, cond_true, cond_false])) (.cons (Says.int (by simp only [S.Sxor_1, h0, cond_true, cond_false])) (.nil))))
 ·
  rcases Bool.eq_false_or_eq_true (S.Empty c d) with h1 | h1
  ·
   exact (sim_run (S.hE S.o_Sor_ok) (show run _ 15 [.str false ⟨#[94]⟩, .agg [.int true .i64 a, .int true .i64 b], .agg [.int true .i64 c, .int true .i64 d]] [] [.br false, .br true] = some ((True ∧ S.Empty a b = false) ∧ S.Empty c d = true, .agg [.int false .i64 1, .int false .i64 0], []) by kernel_rfl) ⟨⟨trivial, h0⟩, h1⟩).says (Says.agg (.cons (Says.int (by simp only [S.Sxor_0, h1, h0, cond_true, cond_false])) (.cons (Says.int (by simp only [S.Sxor_1, h1, h0, cond_true, cond_false])) (.nil))))
  ·
   rcases Bool.eq_false_or_eq_true (S.One_1 a b) with h2 | h2
   ·
    rcases Bool.eq_false_or_eq_true (S.One_1 c d) with h3 | h3
    ·
     rcases Bool.eq_false_or_eq_true (S.Bxor_1 (S.One_0 a b) (S.One_0 c d) != 0) with h4 | h4
     ·
      exact (sim_run (S.hE S.o_Sor_ok) (show run _ 15 [.str false ⟨#[94]⟩, .agg [.int true .i64 a, .int true .i64 b], .agg [.int true .i64 c, .int true .i64 d]] [] [.br false, .br false, .br true, .br true, .br true] = some (((((True ∧ S.Empty a b = false) ∧ S.Empty c d = false) ∧ S.One_1 a b = true) ∧ S.One_1 c d = true) ∧ (S.Bxor_1 (S.One_0 a b) (S.One_0 c d) != 0) = true, .agg [.int false .i64 1, .int false .i64 0], []) by kernel_rfl) ⟨⟨⟨⟨⟨trivial, h0⟩, h1⟩, h2⟩, h3⟩, h4⟩).says (Says.agg (.cons (Says.int (by simp only [S.Sxor_0, h4, h3, h2, h1, h0, cond_true, cond_false])) (.cons (Says.int (by simp only [S.Sxor_1, h4, h3, h2, h1, h0, cond_true, cond_false])) (.nil))))
     ·
      exact (sim_run (S.hE S.o_Sor_ok) (show run _ 15 [.str false ⟨#[94]⟩, .agg [.int true .i64 a, .int true .i64 b], .agg [.int true .i64 c, .int true .i64 d]] [] [.br false, .br false, .br true, .br true, .br false] = some (((((True ∧ S.Empty a b = false) ∧ S.Empty c d = false) ∧ S.One_1 a b = true) ∧ S.One_1 c d = true) ∧ (S.Bxor_1 (S.One_0 a b) (S.One_0 c d) != 0) = false, .agg [.int true .i64 (S.Of_0 (S.Bxor_0 (S.One_0 a b) (S.One_0 c d))), .int true .i64 (S.Of_1 (S.Bxor_0 (S.One_0 a b) (S.One_0 c d)))], []) by kernel_rfl) ⟨⟨⟨⟨⟨trivial, h0⟩, h1⟩, h2⟩, h3⟩, h4⟩).says (Says.agg (.cons (Says.int (by simp only [S.Sxor_0, h4, h3, h2, h1, h0, cond_true, cond_false])) (.cons (Says.int (by simp only [S.Sxor_1, h4, h3, h2, h1, h0, cond_true, cond_false])) (.nil))))
    ·
     exact (sim_run (S.hE S.o_Sor_ok) (show run _ 15 [.str false ⟨#[94]⟩, .agg [.int true .i64 a, .int true .i64 b], .agg [.int true .i64 c, .int true .i64 d]] [] [.br false, .br false, .br true, .br false] = some ((((True ∧ S.Empty a b = false) ∧ S.Empty c d = false) ∧ S.One_1 a b = true) ∧ S.One_1 c d = false, .agg [.int true .i64 (S.wide_0 a b c d), .int true .i64 (S.wide_1 a b c d)], []) by kernel_rfl) ⟨⟨⟨⟨trivial, h0⟩, h1⟩, h2⟩, h3⟩).says (Says.agg (.cons (Says.int (by simp only [S.Sxor_0, h3, h2, h1, h0, cond_true, cond_false])) (.cons (Says.int (by simp only [S.Sxor_1, h3, h2, h1, h0, cond_true, cond_false])) (.nil))))
   ·
    exact (sim_run (S.hE S.o_Sor_ok) (show run _ 15 [.str false ⟨#[94]⟩, .agg [.int true .i64 a, .int true .i64 b], .agg [.int true .i64 c, .int true .i64 d]] [] [.br false, .br false, .br false] = some (((True ∧ S.Empty a b = false) ∧ S.Empty c d = false) ∧ S.One_1 a b = false, .agg [.int true .i64 (S.wide_0 a b c d), .int true .i64 (S.wide_1 a b c d)], []) by kernel_rfl) ⟨⟨⟨trivial, h0⟩, h1⟩, h2⟩).says (Says.agg (.cons (Says.int (by simp only [S.Sxor_0, h2, h1, h0, cond_true, cond_false])) (.cons (Says.int (by simp only [S.Sxor_1, h2, h1, h0, cond_true, cond_false])) (.nil))))
def S.o_Sxor : Orc := orcAdd 15 (fun | [.str true t0, .agg [.int true .i64 a, .int true .i64 b], .agg [.int true .i64 c, .int true .i64 d]] => (match t0.data.toList == [94] with | true => some (.agg [.int true .i64 (S.Sxor_0 a b c d), .int true .i64 (S.Sxor_1 a b c d)]) | false => none) | _ => none) S.o_Sor
theorem S.o_Sxor_ok : OrcOk prog S.o_Sxor := orcAdd_ok S.o_Sor_ok fun a v h => by
  try dsimp only at h
  split at h
  · rename_i t0 a b c d
    split at h
    · rename_i ht; cases h; have ht0 := ht; obtain rfl := ba_eq ht0; exact S.Sxor_sim a b c d
    · cases h
  · cases h
def S.Sand_0 (a b c d : Int) : Int := (bif S.Empty a b then (1) else (bif S.Empty c d then (1) else (bif S.One_1 a b then (bif S.One_1 c d then (bif S.Band_1 (S.One_0 a b) (S.One_0 c d) != 0 then (1) else (S.Of_0 (S.Band_0 (S.One_0 a b) (S.One_0 c d)))) else (S.low_0 a b c d)) else (S.low_0 a b c d))))
def S.Sand_1 (a b c d : Int) : Int := (bif S.Empty a b then (0) else (bif S.Empty c d then (0) else (bif S.One_1 a b then (bif S.One_1 c d then (bif S.Band_1 (S.One_0 a b) (S.One_0 c d) != 0 then (0) else (S.Of_1 (S.Band_0 (S.One_0 a b) (S.One_0 c d)))) else (S.low_1 a b c d)) else (S.low_1 a b c d))))
theorem S.Sand_sim (a b c d : Int) : Sim prog 15 [.str true ⟨#[38]⟩, .agg [.int true .i64 a, .int true .i64 b], .agg [.int true .i64 c, .int true .i64 d]] [] (.agg [.int true .i64 (S.Sand_0 a b c d), .int true .i64 (S.Sand_1 a b c d)]) [] := by
 refine Sim.args (args' := [.str false ⟨#[38]⟩, .agg [.int true .i64 a, .int true .i64 b], .agg [.int true .i64 c, .int true .i64 d]]) ?_ (.cons (Says.str rfl) (.cons (Says.refl _) (.cons (Says.refl _) (.nil))))
 rcases Bool.eq_false_or_eq_true (S.Empty a b) with h0 | h0
 ·
  exact (sim_run (S.hE S.o_Sxor_ok) (show run _ 15 [.str false ⟨#[38]⟩, .agg [.int true .i64 a, .int true .i64 b], .agg [.int true .i64 c, .int true .i64 d]] [] [.br true] = some (True ∧ S.Empty a b = true, .agg [.int false .i64 1, .int false .i64 0], []) by kernel_rfl) ⟨trivial, h0⟩).says (Says.agg (.cons (Says.int (by simp only [S.Sand_0, h0, cond_true, cond_false])) (.cons (Says.int (by simp only [S.Sand_1, h0, cond_true, cond_false])) (.nil))))
 ·
  rcases Bool.eq_false_or_eq_true (S.Empty c d) with h1 | h1
  ·
   exact (sim_run (S.hE S.o_Sxor_ok) (show run _ 15 [.str false ⟨#[38]⟩, .agg [.int true .i64 a, .int true .i64 b], .agg [.int true .i64 c, .int true .i64 d]] [] [.br false, .br true] = some ((True ∧ S.Empty a b = false) ∧ S.Empty c d = true, .agg [.int false .i64 1, .int false .i64 0], []) by kernel_rfl) ⟨⟨trivial, h0⟩, h1⟩).says (Says.agg (.cons (Says.int (by simp only [S.Sand_0, h1, h0, cond_true, cond_false])) (.cons (Says.int (by simp only [S.Sand_1, h1, h0, cond_true, cond_false])) (.nil))))
  ·
   rcases Bool.eq_false_or_eq_true (S.One_1 a b) with h2 | h2
   ·
    rcases Bool.eq_false_or_eq_true (S.One_1 c d) with h3 | h3
    ·
     rcases Bool.eq_false_or_eq_true (S.Band_1 (S.One_0 a b) (S.One_0 c d) != 0) with h4 | h4
     ·
      exact (sim_run (S.hE S.o_Sxor_ok) (show run _ 15 [.str false ⟨#[38]⟩, .agg [.int true .i64 a, .int true .i64 b], .agg [.int true .i64 c, .int true .i64 d]] [] [.br false, .br false, .br true, .br true, .br true] = some (((((True ∧ S.Empty a b = false) ∧ S.Empty c d = false) ∧ S.One_1 a b = true) ∧ S.One_1 c d = true) ∧ (S.Band_1 (S.One_0 a b) (S.One_0 c d) != 0) = true, .agg [.int false .i64 1, .int false .i64 0], []) by kernel_rfl) ⟨⟨⟨⟨⟨trivial, h0⟩, h1⟩, h2⟩, h3⟩, h4⟩).says (Says.agg (.cons (Says.int (by simp only [S.Sand_0, h4, h3, h2, h1, h0, cond_true, cond_false])) (.cons (Says.int (by simp only [S.Sand_1, h4, h3, h2, h1, h0, cond_true, cond_false])) (.nil))))
     ·
      exact (sim_run (S.hE S.o_Sxor_ok) (show run _ 15 [.str false ⟨#[38]⟩, .agg [.int true .i64 a, .int true .i64 b], .agg [.int true .i64 c, .int true .i64 d]] [] [.br false, .br false, .br true, .br true, .br false] = some (((((True ∧ S.Empty a b = false) ∧ S.Empty c d = false) ∧ S.One_1 a b = true) ∧ S.One_1 c d = true) ∧ (S.Band_1 (S.One_0 a b) (S.One_0 c d) != 0) = false, .agg [.int true .i64 (S.Of_0 (S.Band_0 (S.One_0 a b) (S.One_0 c d))), .int true .i64 (S.Of_1 (S.Band_0 (S.One_0 a b) (S.One_0 c d)))], []) by kernel_rfl) ⟨⟨⟨⟨⟨trivial, h0⟩, h1⟩, h2⟩, h3⟩, h4⟩).says (Says.agg (.cons (Says.int (by simp only [S.Sand_0, h4, h3, h2, h1, h0, cond_true, cond_false])) (.cons (Says.int (by simp only [S.Sand_1, h4, h3, h2, h1, h0, cond_true, cond_false])) (.nil))))
    ·
     exact (sim_run (S.hE S.o_Sxor_ok) (show run _ 15 [.str false ⟨#[38]⟩, .agg [.int true .i64 a, .int true .i64 b], .agg [.int true .i64 c, .int true .i64 d]] [] [.br false, .br false, .br true, .br false] = some ((((True ∧ S.Empty a b = false) ∧ S.Empty c d = false) ∧ S.One_1 a b = true) ∧ S.One_1 c d = false, .agg [.int true .i64 (S.low_0 a b c d), .int true .i64 (S.low_1 a b c d)], []) by kernel_rfl) ⟨⟨⟨⟨trivial, h0⟩, h1⟩, h2⟩, h3⟩).says (Says.agg (.cons (Says.int (by simp only [S.Sand_0, h3, h2, h1, h0, cond_true, cond_false])) (.cons (Says.int (by simp only [S.Sand_1, h3, h2, h1, h0, cond_true, cond_false])) (.nil))))
   ·
    exact (sim_run (S.hE S.o_Sxor_ok) (show run _ 15 [.str false ⟨#[38]⟩, .agg [.int true .i64 a, .int true .i64 b], .agg [.int true .i64 c, .int true .i64 d]] [] [.br false, .br false, .br false] = some (((True ∧ S.Empty a b = false) ∧ S.Empty c d = false) ∧ S.One_1 a b = false, .agg [.int true .i64 (S.low_0 a b c d), .int true .i64 (S.low_1 a b c d)], []) by kernel_rfl) ⟨⟨⟨trivial, h0⟩, h1⟩, h2⟩).says (Says.agg (.cons (Says.int (by simp only [S.Sand_0, h2, h1, h0, cond_true, cond_false])) (.cons (Says.int (by simp only [S.Sand_1, h2, h1, h0, cond_true, cond_false])) (.nil))))
def S.o_Sand : Orc := orcAdd 15 (fun | [.str true t0, .agg [.int true .i64 a, .int true .i64 b], .agg [.int true .i64 c, .int true .i64 d]] => (match t0.data.toList == [38] with | true => some (.agg [.int true .i64 (S.Sand_0 a b c d), .int true .i64 (S.Sand_1 a b c d)]) | false => none) | _ => none) S.o_Sxor
theorem S.o_Sand_ok : OrcOk prog S.o_Sand := orcAdd_ok S.o_Sxor_ok fun a v h => by
  try dsimp only at h
  split at h
  · rename_i t0 a b c d
    split at h
    · rename_i ht; cases h; have ht0 := ht; obtain rfl := ba_eq ht0; exact S.Sand_sim a b c d
    · cases h
  · cases h
def S.Seql_0 (a b c d : Int) : Int := (bif S.Empty a b then (1) else (bif S.Empty c d then (1) else (bif S.One_1 a b then (bif S.One_1 c d then (bif S.Beq_1 (S.One_0 a b) (S.One_0 c d) != 0 then (1) else (S.Of_0 (S.Beq_0 (S.One_0 a b) (S.One_0 c d)))) else (S.ceq_0 a b c d)) else (S.ceq_0 a b c d))))
def S.Seql_1 (a b c d : Int) : Int := (bif S.Empty a b then (0) else (bif S.Empty c d then (0) else (bif S.One_1 a b then (bif S.One_1 c d then (bif S.Beq_1 (S.One_0 a b) (S.One_0 c d) != 0 then (0) else (S.Of_1 (S.Beq_0 (S.One_0 a b) (S.One_0 c d)))) else (S.ceq_1 a b c d)) else (S.ceq_1 a b c d))))
theorem S.Seql_sim (a b c d : Int) : Sim prog 15 [.str true ⟨#[61, 61]⟩, .agg [.int true .i64 a, .int true .i64 b], .agg [.int true .i64 c, .int true .i64 d]] [] (.agg [.int true .i64 (S.Seql_0 a b c d), .int true .i64 (S.Seql_1 a b c d)]) [] := by
 refine Sim.args (args' := [.str false ⟨#[61, 61]⟩, .agg [.int true .i64 a, .int true .i64 b], .agg [.int true .i64 c, .int true .i64 d]]) ?_ (.cons (Says.str rfl) (.cons (Says.refl _) (.cons (Says.refl _) (.nil))))
 rcases Bool.eq_false_or_eq_true (S.Empty a b) with h0 | h0
 ·
  exact (sim_run (S.hE S.o_Sand_ok) (show run _ 15 [.str false ⟨#[61, 61]⟩, .agg [.int true .i64 a, .int true .i64 b], .agg [.int true .i64 c, .int true .i64 d]] [] [.br true] = some (True ∧ S.Empty a b = true, .agg [.int false .i64 1, .int false .i64 0], []) by kernel_rfl) ⟨trivial, h0⟩).says (Says.agg (.cons (Says.int (by simp only [S.Seql_0, h0, cond_true, cond_false])) (.cons (Says.int (by simp only [S.Seql_1, h0, cond_true, cond_false])) (.nil))))
 ·
  rcases Bool.eq_false_or_eq_true (S.Empty c d) with h1 | h1
  ·
   exact (sim_run (S.hE S.o_Sand_ok) (show run _ 15 [.str false ⟨#[61, 61]⟩, .agg [.int true .i64 a, .int true .i64 b], .agg [.int true .i64 c, .int true .i64 d]] [] [.br false, .br true] = some ((True ∧ S.Empty a b = false) ∧ S.Empty c d = true, .agg [.int false .i64 1, .int false .i64 0], []) by kernel_rfl) ⟨⟨trivial, h0⟩, h1⟩).says (Says.agg (.cons (Says.int (by simp only [S.Seql_0, h1, h0, cond_true, cond_false])) (.cons (Says.int (by simp only [S.Seql_1, h1, h0, cond_true, cond_false])) (.nil))))
  ·
   rcases Bool.eq_false_or_eq_true (S.One_1 a b) with h2 | h2
   ·
    rcases Bool.eq_false_or_eq_true (S.One_1 c d) with h3 | h3
    ·
     rcases Bool.eq_false_or_eq_true (S.Beq_1 (S.One_0 a b) (S.One_0 c d) != 0) with h4 | h4
     ·
      exact (sim_run (S.hE S.o_Sand_ok) (show run _ 15 [.str false ⟨#[61, 61]⟩, .agg [.int true .i64 a, .int true .i64 b], .agg [.int true .i64 c, .int true .i64 d]] [] [.br false, .br false, .br true, .br true, .br true] = some (((((True ∧ S.Empty a b = false) ∧ S.Empty c d = false) ∧ S.One_1 a b = true) ∧ S.One_1 c d = true) ∧ (S.Beq_1 (S.One_0 a b) (S.One_0 c d) != 0) = true, .agg [.int false .i64 1, .int false .i64 0], []) by kernel_rfl) ⟨⟨⟨⟨⟨trivial, h0⟩, h1⟩, h2⟩, h3⟩, h4⟩).says (Says.agg (.cons (Says.int (by simp only [S.Seql_0, h4, h3, h2, h1, h0, cond_true, cond_false])) (.cons (Says.int (by simp only [S.Seql_1, h4, h3, h2, h1, h0, cond_true, cond_false])) (.nil))))
     ·
      exact (sim_run (S.hE S.o_Sand_ok) (show run _ 15 [.str false ⟨#[61, 61]⟩, .agg [.int true .i64 a, .int true .i64 b], .agg [.int true .i64 c, .int true .i64 d]] [] [.br false, .br false, .br true, .br true, .br false] = some (((((True ∧ S.Empty a b = false) ∧ S.Empty c d = false) ∧ S.One_1 a b = true) ∧ S.One_1 c d = true) ∧ (S.Beq_1 (S.One_0 a b) (S.One_0 c d) != 0) = false, .agg [.int true .i64 (S.Of_0 (S.Beq_0 (S.One_0 a b) (S.One_0 c d))), .int true .i64 (S.Of_1 (S.Beq_0 (S.One_0 a b) (S.One_0 c d)))], []) by kernel_rfl) ⟨⟨⟨⟨⟨trivial, h0⟩, h1⟩, h2⟩, h3⟩, h4⟩).says (Says.agg (.cons (Says.int (by simp only [S.Seql_0, h4, h3, h2, h1, h0, cond_true, cond_false])) (.cons (Says.int (by simp only [S.Seql_1, h4, h3, h2, h1, h0, cond_true, cond_false])) (.nil))))
    ·
     exact (sim_run (S.hE S.o_Sand_ok) (show run _ 15 [.str false ⟨#[61, 61]⟩, .agg [.int true .i64 a, .int true .i64 b], .agg [.int true .i64 c, .int true .i64 d]] [] [.br false, .br false, .br true, .br false] = some ((((True ∧ S.Empty a b = false) ∧ S.Empty c d = false) ∧ S.One_1 a b = true) ∧ S.One_1 c d = false, .agg [.int true .i64 (S.ceq_0 a b c d), .int true .i64 (S.ceq_1 a b c d)], []) by kernel_rfl) ⟨⟨⟨⟨trivial, h0⟩, h1⟩, h2⟩, h3⟩).says (Says.agg (.cons (Says.int (by simp only [S.Seql_0, h3, h2, h1, h0, cond_true, cond_false])) (.cons (Says.int (by simp only [S.Seql_1, h3, h2, h1, h0, cond_true, cond_false])) (.nil))))
   ·
    exact (sim_run (S.hE S.o_Sand_ok) (show run _ 15 [.str false ⟨#[61, 61]⟩, .agg [.int true .i64 a, .int true .i64 b], .agg [.int true .i64 c, .int true .i64 d]] [] [.br false, .br false, .br false] = some (((True ∧ S.Empty a b = false) ∧ S.Empty c d = false) ∧ S.One_1 a b = false, .agg [.int true .i64 (S.ceq_0 a b c d), .int true .i64 (S.ceq_1 a b c d)], []) by kernel_rfl) ⟨⟨⟨trivial, h0⟩, h1⟩, h2⟩).says (Says.agg (.cons (Says.int (by simp only [S.Seql_0, h2, h1, h0, cond_true, cond_false])) (.cons (Says.int (by simp only [S.Seql_1, h2, h1, h0, cond_true, cond_false])) (.nil))))
def S.o_Seql : Orc := orcAdd 15 (fun | [.str true t0, .agg [.int true .i64 a, .int true .i64 b], .agg [.int true .i64 c, .int true .i64 d]] => (match t0.data.toList == [61, 61] with | true => some (.agg [.int true .i64 (S.Seql_0 a b c d), .int true .i64 (S.Seql_1 a b c d)]) | false => none) | _ => none) S.o_Sand
theorem S.o_Seql_ok : OrcOk prog S.o_Seql := orcAdd_ok S.o_Sand_ok fun a v h => by
  try dsimp only at h
  split at h
  · rename_i t0 a b c d
    split at h
    · rename_i ht; cases h; have ht0 := ht; obtain rfl := ba_eq ht0; exact S.Seql_sim a b c d
    · cases h
  · cases h
def S.Sneq_0 (a b c d : Int) : Int := (bif S.Empty a b then (1) else (bif S.Empty c d then (1) else (bif S.One_1 a b then (bif S.One_1 c d then (bif S.Bne_1 (S.One_0 a b) (S.One_0 c d) != 0 then (1) else (S.Of_0 (S.Bne_0 (S.One_0 a b) (S.One_0 c d)))) else (S.cne_0 a b c d)) else (S.cne_0 a b c d))))
def S.Sneq_1 (a b c d : Int) : Int := (bif S.Empty a b then (0) else (bif S.Empty c d then (0) else (bif S.One_1 a b then (bif S.One_1 c d then (bif S.Bne_1 (S.One_0 a b) (S.One_0 c d) != 0 then (0) else (S.Of_1 (S.Bne_0 (S.One_0 a b) (S.One_0 c d)))) else (S.cne_1 a b c d)) else (S.cne_1 a b c d))))
theorem S.Sneq_sim (a b c d : Int) : Sim prog 15 [.str true ⟨#[33, 61]⟩, .agg [.int true .i64 a, .int true .i64 b], .agg [.int true .i64 c, .int true .i64 d]] [] (.agg [.int true .i64 (S.Sneq_0 a b c d), .int true .i64 (S.Sneq_1 a b c d)]) [] := by
 refine Sim.args (args' := [.str false ⟨#[33, 61]⟩, .agg [.int true .i64 a, .int true .i64 b], .agg [.int true .i64 c, .int true .i64 d]]) ?_ (.cons (Says.str rfl) (.cons (Says.refl _) (.cons (Says.refl _) (.nil))))
 rcases Bool.eq_false_or_eq_true (S.Empty a b) with h0 | h0
 ·
  exact (sim_run (S.hE S.o_Seql_ok) (show run _ 15 [.str false ⟨#[33, 61]⟩, .agg [.int true .i64 a, .int true .i64 b], .agg [.int true .i64 c, .int true .i64 d]] [] [.br true] = some (True ∧ S.Empty a b = true, .agg [.int false .i64 1, .int false .i64 0], []) by kernel_rfl) ⟨trivial, h0⟩).says (Says.agg (.cons (Says.int (by simp only [S.Sneq_0, h0, cond_true, cond_false])) (.cons (Says.int (by simp only [S.Sneq_1, h0, cond_true, cond_false])) (.nil))))
 ·
  rcases Bool.eq_false_or_eq_true (S.Empty c d) with h1 | h1
  ·
   exact (sim_run (S.hE S.o_Seql_ok) (show run _ 15 [.str false ⟨#[33, 61]⟩, .agg [.int true .i64 a, .int true .i64 b], .agg [.int true .i64 c, .int true .i64 d]] [] [.br false, .br true] = some ((True ∧ S.Empty a b = false) ∧ S.Empty c d = true, .agg [.int false .i64 1, .int false .i64 0], []) by kernel_rfl) ⟨⟨trivial, h0⟩, h1⟩).says (Says.agg (.cons (Says.int (by simp only [S.Sneq_0, h1, h0, cond_true, cond_false])) (.cons (Says.int (by simp only [S.Sneq_1, h1, h0, cond_true, cond_false])) (.nil))))
  ·
   rcases Bool.eq_false_or_eq_true (S.One_1 a b) with h2 | h2
   ·
    rcases Bool.eq_false_or_eq_true (S.One_1 c d) with h3 | h3
    ·
     rcases Bool.eq_false_or_eq_true (S.Bne_1 (S.One_0 a b) (S.One_0 c d) != 0) with h4 | h4
     ·
      exact (sim_run (S.hE S.o_Seql_ok) (show run _ 15 [.str false ⟨#[33, 61]⟩, .agg [.int true .i64 a, .int true .i64 b], .agg [.int true .i64 c, .int true .i64 d]] [] [.br false, .br false, .br true, .br true, .br true] = some (((((True ∧ S.Empty a b = false) ∧ S.Empty c d = false) ∧ S.One_1 a b = true) ∧ S.One_1 c d = true) ∧ (S.Bne_1 (S.One_0 a b) (S.One_0 c d) != 0) = true, .agg [.int false .i64 1, .int false .i64 0], []) by kernel_rfl) ⟨⟨⟨⟨⟨trivial, h0⟩, h1⟩, h2⟩, h3⟩, h4⟩).says (Says.agg (.cons (Says.int (by simp only [S.Sneq_0, h4, h3, h2, h1, h0, cond_true, cond_false])) (.cons (Says.int (by simp only [S.Sneq_1, h4, h3, h2, h1, h0, cond_true, cond_false])) (.nil))))
     ·
      exact (sim_run (S.hE S.o_Seql_ok) (show run _ 15 [.str false ⟨#[33, 61]⟩, .agg [.int true .i64 a, .int true .i64 b], .agg [.int true .i64 c, .int true .i64 d]] [] [.br false, .br false, .br true, .br true, .br false] = some (((((True ∧ S.Empty a b = false) ∧ S.Empty c d = false) ∧ S.One_1 a b = true) ∧ S.One_1 c d = true) ∧ (S.Bne_1 (S.One_0 a b) (S.One_0 c d) != 0) = false, .agg [.int true .i64 (S.Of_0 (S.Bne_0 (S.One_0 a b) (S.One_0 c d))), .int true .i64 (S.Of_1 (S.Bne_0 (S.One_0 a b) (S.One_0 c d)))], []) by kernel_rfl) ⟨⟨⟨⟨⟨trivial, h0⟩, h1⟩, h2⟩, h3⟩, h4⟩).says (Says.agg (.cons (Says.int (by simp only [S.Sneq_0, h4, h3, h2, h1, h0, cond_true, cond_false])) (.cons (Says.int (by simp only [S.Sneq_1, h4, h3, h2, h1, h0, cond_true, cond_false])) (.nil))))
    ·
     exact (sim_run (S.hE S.o_Seql_ok) (show run _ 15 [.str false ⟨#[33, 61]⟩, .agg [.int true .i64 a, .int true .i64 b], .agg [.int true .i64 c, .int true .i64 d]] [] [.br false, .br false, .br true, .br false] = some ((((True ∧ S.Empty a b = false) ∧ S.Empty c d = false) ∧ S.One_1 a b = true) ∧ S.One_1 c d = false, .agg [.int true .i64 (S.cne_0 a b c d), .int true .i64 (S.cne_1 a b c d)], []) by kernel_rfl) ⟨⟨⟨⟨trivial, h0⟩, h1⟩, h2⟩, h3⟩).says (Says.agg (.cons (Says.int (by simp only [S.Sneq_0, h3, h2, h1, h0, cond_true, cond_false])) (.cons (Says.int (by simp only [S.Sneq_1, h3, h2, h1, h0, cond_true, cond_false])) (.nil))))
   ·
    exact (sim_run (S.hE S.o_Seql_ok) (show run _ 15 [.str false ⟨#[33, 61]⟩, .agg [.int true .i64 a, .int true .i64 b], .agg [.int true .i64 c, .int true .i64 d]] [] [.br false, .br false, .br false] = some (((True ∧ S.Empty a b = false) ∧ S.Empty c d = false) ∧ S.One_1 a b = false, .agg [.int true .i64 (S.cne_0 a b c d), .int true .i64 (S.cne_1 a b c d)], []) by kernel_rfl) ⟨⟨⟨trivial, h0⟩, h1⟩, h2⟩).says (Says.agg (.cons (Says.int (by simp only [S.Sneq_0, h2, h1, h0, cond_true, cond_false])) (.cons (Says.int (by simp only [S.Sneq_1, h2, h1, h0, cond_true, cond_false])) (.nil))))
def S.o_Sneq : Orc := orcAdd 15 (fun | [.str true t0, .agg [.int true .i64 a, .int true .i64 b], .agg [.int true .i64 c, .int true .i64 d]] => (match t0.data.toList == [33, 61] with | true => some (.agg [.int true .i64 (S.Sneq_0 a b c d), .int true .i64 (S.Sneq_1 a b c d)]) | false => none) | _ => none) S.o_Seql
theorem S.o_Sneq_ok : OrcOk prog S.o_Sneq := orcAdd_ok S.o_Seql_ok fun a v h => by
  try dsimp only at h
  split at h
  · rename_i t0 a b c d
    split at h
    · rename_i ht; cases h; have ht0 := ht; obtain rfl := ba_eq ht0; exact S.Sneq_sim a b c d
    · cases h
  · cases h
def S.Slth_0 (a b c d : Int) : Int := (bif S.Empty a b then (1) else (bif S.Empty c d then (1) else (bif S.One_1 a b then (bif S.One_1 c d then (bif S.Blt_1 (S.One_0 a b) (S.One_0 c d) != 0 then (1) else (S.Of_0 (S.Blt_0 (S.One_0 a b) (S.One_0 c d)))) else (S.clt_0 a b c d)) else (S.clt_0 a b c d))))
def S.Slth_1 (a b c d : Int) : Int := (bif S.Empty a b then (0) else (bif S.Empty c d then (0) else (bif S.One_1 a b then (bif S.One_1 c d then (bif S.Blt_1 (S.One_0 a b) (S.One_0 c d) != 0 then (0) else (S.Of_1 (S.Blt_0 (S.One_0 a b) (S.One_0 c d)))) else (S.clt_1 a b c d)) else (S.clt_1 a b c d))))
theorem S.Slth_sim (a b c d : Int) : Sim prog 15 [.str true ⟨#[60]⟩, .agg [.int true .i64 a, .int true .i64 b], .agg [.int true .i64 c, .int true .i64 d]] [] (.agg [.int true .i64 (S.Slth_0 a b c d), .int true .i64 (S.Slth_1 a b c d)]) [] := by
 refine Sim.args (args' := [.str false ⟨#[60]⟩, .agg [.int true .i64 a, .int true .i64 b], .agg [.int true .i64 c, .int true .i64 d]]) ?_ (.cons (Says.str rfl) (.cons (Says.refl _) (.cons (Says.refl _) (.nil))))
 rcases Bool.eq_false_or_eq_true (S.Empty a b) with h0 | h0
 ·
  exact (sim_run (S.hE S.o_Sneq_ok) (show run _ 15 [.str false ⟨#[60]⟩, .agg [.int true .i64 a, .int true .i64 b], .agg [.int true .i64 c, .int true .i64 d]] [] [.br true] = some (True ∧ S.Empty a b = true, .agg [.int false .i64 1, .int false .i64 0], []) by kernel_rfl) ⟨trivial, h0⟩).says (Says.agg (.cons (Says.int (by simp only [S.Slth_0, h0, cond_true, cond_false])) (.cons (Says.int (by simp only [S.Slth_1, h0, cond_true, cond_false])) (.nil))))
 ·
  rcases Bool.eq_false_or_eq_true (S.Empty c d) with h1 | h1
  ·
   exact (sim_run (S.hE S.o_Sneq_ok) (show run _ 15 [.str false ⟨#[60]⟩, .agg [.int true .i64 a, .int true .i64 b], .agg [.int true .i64 c, .int true .i64 d]] [] [.br false, .br true] = some ((True ∧ S.Empty a b = false) ∧ S.Empty c d = true, .agg [.int false .i64 1, .int false .i64 0], []) by kernel_rfl) ⟨⟨trivial, h0⟩, h1⟩).says (Says.agg (.cons (Says.int (by simp only [S.Slth_0, h1, h0, cond_true, cond_false])) (.cons (Says.int (by simp only [S.Slth_1, h1, h0, cond_true, cond_false])) (.nil))))
  ·
   rcases Bool.eq_false_or_eq_true (S.One_1 a b) with h2 | h2
   ·
    rcases Bool.eq_false_or_eq_true (S.One_1 c d) with h3 | h3
    ·
     rcases Bool.eq_false_or_eq_true (S.Blt_1 (S.One_0 a b) (S.One_0 c d) != 0) with h4 | h4
     ·
      exact (sim_run (S.hE S.o_Sneq_ok) (show run _ 15 [.str false ⟨#[60]⟩, .agg [.int true .i64 a, .int true .i64 b], .agg [.int true .i64 c, .int true .i64 d]] [] [.br false, .br false, .br true, .br true, .br true] = some (((((True ∧ S.Empty a b = false) ∧ S.Empty c d = false) ∧ S.One_1 a b = true) ∧ S.One_1 c d = true) ∧ (S.Blt_1 (S.One_0 a b) (S.One_0 c d) != 0) = true, .agg [.int false .i64 1, .int false .i64 0], []) by kernel_rfl) ⟨⟨⟨⟨⟨trivial, h0⟩, h1⟩, h2⟩, h3⟩, h4⟩).says (Says.agg (.cons (Says.int (by simp only [S.Slth_0, h4, h3, h2, h1, h0, cond_true, cond_false])) (.cons (Says.int (by simp only [S.Slth_1, h4, h3, h2, h1, h0, cond_true, cond_false])) (.nil))))
     ·
      exact (sim_run (S.hE S.o_Sneq_ok) (show run _ 15 [.str false ⟨#[60]⟩, .agg [.int true .i64 a, .int true .i64 b], .agg [.int true .i64 c, .int true .i64 d]] [] [.br false, .br false, .br true, .br true, .br false] = some (((((True ∧ S.Empty a b = false) ∧ S.Empty c d = false) ∧ S.One_1 a b = true) ∧ S.One_1 c d = true) ∧ (S.Blt_1 (S.One_0 a b) (S.One_0 c d) != 0) = false, .agg [.int true .i64 (S.Of_0 (S.Blt_0 (S.One_0 a b) (S.One_0 c d))), .int true .i64 (S.Of_1 (S.Blt_0 (S.One_0 a b) (S.One_0 c d)))], []) by kernel_rfl) ⟨⟨⟨⟨⟨trivial, h0⟩, h1⟩, h2⟩, h3⟩, h4⟩).says (Says.agg (.cons (Says.int (by simp only [S.Slth_0, h4, h3, h2, h1, h0, cond_true, cond_false])) (.cons (Says.int (by simp only [S.Slth_1, h4, h3, h2, h1, h0, cond_true, cond_false])) (.nil))))
    ·
     exact (sim_run (S.hE S.o_Sneq_ok) (show run _ 15 [.str false ⟨#[60]⟩, .agg [.int true .i64 a, .int true .i64 b], .agg [.int true .i64 c, .int true .i64 d]] [] [.br false, .br false, .br true, .br false] = some ((((True ∧ S.Empty a b = false) ∧ S.Empty c d = false) ∧ S.One_1 a b = true) ∧ S.One_1 c d = false, .agg [.int true .i64 (S.clt_0 a b c d), .int true .i64 (S.clt_1 a b c d)], []) by kernel_rfl) ⟨⟨⟨⟨trivial, h0⟩, h1⟩, h2⟩, h3⟩).says (Says.agg (.cons (Says.int (by simp only [S.Slth_0, h3, h2, h1, h0, cond_true, cond_false])) (.cons (Says.int (by simp only [S.Slth_1, h3, h2, h1, h0, cond_true, cond_false])) (.nil))))
   ·
    exact (sim_run (S.hE S.o_Sneq_ok) (show run _ 15 [.str false ⟨#[60]⟩, .agg [.int true .i64 a, .int true .i64 b], .agg [.int true .i64 c, .int true .i64 d]] [] [.br false, .br false, .br false] = some (((True ∧ S.Empty a b = false) ∧ S.Empty c d = false) ∧ S.One_1 a b = false, .agg [.int true .i64 (S.clt_0 a b c d), .int true .i64 (S.clt_1 a b c d)], []) by kernel_rfl) ⟨⟨⟨trivial, h0⟩, h1⟩, h2⟩).says (Says.agg (.cons (Says.int (by simp only [S.Slth_0, h2, h1, h0, cond_true, cond_false])) (.cons (Says.int (by simp only [S.Slth_1, h2, h1, h0, cond_true, cond_false])) (.nil))))
def S.o_Slth : Orc := orcAdd 15 (fun | [.str true t0, .agg [.int true .i64 a, .int true .i64 b], .agg [.int true .i64 c, .int true .i64 d]] => (match t0.data.toList == [60] with | true => some (.agg [.int true .i64 (S.Slth_0 a b c d), .int true .i64 (S.Slth_1 a b c d)]) | false => none) | _ => none) S.o_Sneq
theorem S.o_Slth_ok : OrcOk prog S.o_Slth := orcAdd_ok S.o_Sneq_ok fun a v h => by
  try dsimp only at h
  split at h
  · rename_i t0 a b c d
    split at h
    · rename_i ht; cases h; have ht0 := ht; obtain rfl := ba_eq ht0; exact S.Slth_sim a b c d
    · cases h
  · cases h
def S.Sleq_0 (a b c d : Int) : Int := (bif S.Empty a b then (1) else (bif S.Empty c d then (1) else (bif S.One_1 a b then (bif S.One_1 c d then (bif S.Ble_1 (S.One_0 a b) (S.One_0 c d) != 0 then (1) else (S.Of_0 (S.Ble_0 (S.One_0 a b) (S.One_0 c d)))) else (S.cle_0 a b c d)) else (S.cle_0 a b c d))))
def S.Sleq_1 (a b c d : Int) : Int := (bif S.Empty a b then (0) else (bif S.Empty c d then (0) else (bif S.One_1 a b then (bif S.One_1 c d then (bif S.Ble_1 (S.One_0 a b) (S.One_0 c d) != 0 then (0) else (S.Of_1 (S.Ble_0 (S.One_0 a b) (S.One_0 c d)))) else (S.cle_1 a b c d)) else (S.cle_1 a b c d))))
theorem S.Sleq_sim (a b c d : Int) : Sim prog 15 [.str true ⟨#[60, 61]⟩, .agg [.int true .i64 a, .int true .i64 b], .agg [.int true .i64 c, .int true .i64 d]] [] (.agg [.int true .i64 (S.Sleq_0 a b c d), .int true .i64 (S.Sleq_1 a b c d)]) [] := by
 refine Sim.args (args' := [.str false ⟨#[60, 61]⟩, .agg [.int true .i64 a, .int true .i64 b], .agg [.int true .i64 c, .int true .i64 d]]) ?_ (.cons (Says.str rfl) (.cons (Says.refl _) (.cons (Says.refl _) (.nil))))
 rcases Bool.eq_false_or_eq_true (S.Empty a b) with h0 | h0
 ·
  exact (sim_run (S.hE S.o_Slth_ok) (show run _ 15 [.str false ⟨#[60, 61]⟩, .agg [.int true .i64 a, .int true .i64 b], .agg [.int true .i64 c, .int true .i64 d]] [] [.br true] = some (True ∧ S.Empty a b = true, .agg [.int false .i64 1, .int false .i64 0], []) by kernel_rfl) ⟨trivial, h0⟩).says (Says.agg (.cons (Says.int (by simp only [S.Sleq_0, h0, cond_true, cond_false])) (.cons (Says.int (by simp only [S.Sleq_1, h0, cond_true, cond_false])) (.nil))))
 ·
  rcases Bool.eq_false_or_eq_true (S.Empty c d) with h1 | h1
  ·
   exact (sim_run (S.hE S.o_Slth_ok) (show run _ 15 [.str false ⟨#[60, 61]⟩, .agg [.int true .i64 a, .int true .i64 b], .agg [.int true .i64 c, .int true .i64 d]] [] [.br false, .br true] = some ((True ∧ S.Empty a b = false) ∧ S.Empty c d = true, .agg [.int false .i64 1, .int false .i64 0], []) by kernel_rfl) ⟨⟨trivial, h0⟩, h1⟩).says (Says.agg (.cons (Says.int (by simp only [S.Sleq_0, h1, h0, cond_true, cond_false])) (.cons (Says.int (by simp only [S.Sleq_1, h1, h0, cond_true, cond_false])) (.nil))))
  ·
   rcases Bool.eq_false_or_eq_true (S.One_1 a b) with h2 | h2
   ·
    rcases Bool.eq_false_or_eq_true (S.One_1 c d) with h3 | h3
    ·
     rcases Bool.eq_false_or_eq_true (S.Ble_1 (S.One_0 a b) (S.One_0 c d) != 0) with h4 | h4
     ·
      exact (sim_run (S.hE S.o_Slth_ok) (show run _ 15 [.str false ⟨#[60, 61]⟩, .agg [.int true .i64 a, .int true .i64 b], .agg [.int true .i64 c, .int true .i64 d]] [] [.br false, .br false, .br true, .br true, .br true] = some (((((True ∧ S.Empty a b = false) ∧ S.Empty c d = false) ∧ S.One_1 a b = true) ∧ S.One_1 c d = true) ∧ (S.Ble_1 (S.One_0 a b) (S.One_0 c d) != 0) = true, .agg [.int false .i64 1, .int false .i64 0], []) by kernel_rfl) ⟨⟨⟨⟨⟨trivial, h0⟩, h1⟩, h2⟩, h3⟩, h4⟩).says (Says.agg (.cons (Says.int (by simp only [S.Sleq_0, h4, h3, h2, h1, h0, cond_true, cond_false])) (.cons (Says.int (by simp only [S.Sleq_1, h4, h3, h2, h1, h0, cond_true, cond_false])) (.nil))))
     ·
      exact (sim_run (S.hE S.o_Slth_ok) (show run _ 15 [.str false ⟨#[60, 61]⟩, .agg [.int true .i64 a, .int true .i64 b], .agg [.int true .i64 c, .int true .i64 d]] [] [.br false, .br false, .br true, .br true, .br false] = some (((((True ∧ S.Empty a b = false) ∧ S.Empty c d = false) ∧ S.One_1 a b = true) ∧ S.One_1 c d = true) ∧ (S.Ble_1 (S.One_0 a b) (S.One_0 c d) != 0) = false, .agg [.int true .i64 (S.Of_0 (S.Ble_0 (S.One_0 a b) (S.One_0 c d))), .int true .i64 (S.Of_1 (S.Ble_0 (S.One_0 a b) (S.One_0 c d)))], []) by kernel_rfl) ⟨⟨⟨⟨⟨trivial, h0⟩, h1⟩, h2⟩, h3⟩, h4⟩).says (Says.agg (.cons (Says.int (by simp only [S.Sleq_0, h4, h3, h2, h1, h0, cond_true, cond_false])) (.cons (Says.int (by simp only [S.Sleq_1, h4, h3, h2, h1, h0, cond_true, cond_false])) (.nil))))
    ·
     exact (sim_run (S.hE S.o_Slth_ok) (show run _ 15 [.str false ⟨#[60, 61]⟩, .agg [.int true .i64 a, .int true .i64 b], .agg [.int true .i64 c, .int true .i64 d]] [] [.br false, .br false, .br true, .br false] = some ((((True ∧ S.Empty a b = false) ∧ S.Empty c d = false) ∧ S.One_1 a b = true) ∧ S.One_1 c d = false, .agg [.int true .i64 (S.cle_0 a b c d), .int true .i64 (S.cle_1 a b c d)], []) by kernel_rfl) ⟨⟨⟨⟨trivial, h0⟩, h1⟩, h2⟩, h3⟩).says (Says.agg (.cons (Says.int (by simp only [S.Sleq_0, h3, h2, h1, h0, cond_true, cond_false])) (.cons (Says.int (by simp only [S.Sleq_1, h3, h2, h1, h0, cond_true, cond_false])) (.nil))))
   ·
    exact (sim_run (S.hE S.o_Slth_ok) (show run _ 15 [.str false ⟨#[60, 61]⟩, .agg [.int true .i64 a, .int true .i64 b], .agg [.int true .i64 c, .int true .i64 d]] [] [.br false, .br false, .br false] = some (((True ∧ S.Empty a b = false) ∧ S.Empty c d = false) ∧ S.One_1 a b = false, .agg [.int true .i64 (S.cle_0 a b c d), .int true .i64 (S.cle_1 a b c d)], []) by kernel_rfl) ⟨⟨⟨trivial, h0⟩, h1⟩, h2⟩).says (Says.agg (.cons (Says.int (by simp only [S.Sleq_0, h2, h1, h0, cond_true, cond_false])) (.cons (Says.int (by simp only [S.Sleq_1, h2, h1, h0, cond_true, cond_false])) (.nil))))
def S.o_Sleq : Orc := orcAdd 15 (fun | [.str true t0, .agg [.int true .i64 a, .int true .i64 b], .agg [.int true .i64 c, .int true .i64 d]] => (match t0.data.toList == [60, 61] with | true => some (.agg [.int true .i64 (S.Sleq_0 a b c d), .int true .i64 (S.Sleq_1 a b c d)]) | false => none) | _ => none) S.o_Slth
theorem S.o_Sleq_ok : OrcOk prog S.o_Sleq := orcAdd_ok S.o_Slth_ok fun a v h => by
  try dsimp only at h
  split at h
  · rename_i t0 a b c d
    split at h
    · rename_i ht; cases h; have ht0 := ht; obtain rfl := ba_eq ht0; exact S.Sleq_sim a b c d
    · cases h
  · cases h
def S.Sgth_0 (a b c d : Int) : Int := (bif S.Empty a b then (1) else (bif S.Empty c d then (1) else (bif S.One_1 a b then (bif S.One_1 c d then (bif S.Bgt_1 (S.One_0 a b) (S.One_0 c d) != 0 then (1) else (S.Of_0 (S.Bgt_0 (S.One_0 a b) (S.One_0 c d)))) else (S.cgt_0 a b c d)) else (S.cgt_0 a b c d))))
def S.Sgth_1 (a b c d : Int) : Int := (bif S.Empty a b then (0) else (bif S.Empty c d then (0) else (bif S.One_1 a b then (bif S.One_1 c d then (bif S.Bgt_1 (S.One_0 a b) (S.One_0 c d) != 0 then (0) else (S.Of_1 (S.Bgt_0 (S.One_0 a b) (S.One_0 c d)))) else (S.cgt_1 a b c d)) else (S.cgt_1 a b c d))))
theorem S.Sgth_sim (a b c d : Int) : Sim prog 15 [.str true ⟨#[62]⟩, .agg [.int true .i64 a, .int true .i64 b], .agg [.int true .i64 c, .int true .i64 d]] [] (.agg [.int true .i64 (S.Sgth_0 a b c d), .int true .i64 (S.Sgth_1 a b c d)]) [] := by
 refine Sim.args (args' := [.str false ⟨#[62]⟩, .agg [.int true .i64 a, .int true .i64 b], .agg [.int true .i64 c, .int true .i64 d]]) ?_ (.cons (Says.str rfl) (.cons (Says.refl _) (.cons (Says.refl _) (.nil))))
 rcases Bool.eq_false_or_eq_true (S.Empty a b) with h0 | h0
 ·
  exact (sim_run (S.hE S.o_Sleq_ok) (show run _ 15 [.str false ⟨#[62]⟩, .agg [.int true .i64 a, .int true .i64 b], .agg [.int true .i64 c, .int true .i64 d]] [] [.br true] = some (True ∧ S.Empty a b = true, .agg [.int false .i64 1, .int false .i64 0], []) by kernel_rfl) ⟨trivial, h0⟩).says (Says.agg (.cons (Says.int (by simp only [S.Sgth_0, h0, cond_true, cond_false])) (.cons (Says.int (by simp only [S.Sgth_1, h0, cond_true, cond_false])) (.nil))))
 ·
  rcases Bool.eq_false_or_eq_true (S.Empty c d) with h1 | h1
  ·
   exact (sim_run (S.hE S.o_Sleq_ok) (show run _ 15 [.str false ⟨#[62]⟩, .agg [.int true .i64 a, .int true .i64 b], .agg [.int true .i64 c, .int true .i64 d]] [] [.br false, .br true] = some ((True ∧ S.Empty a b = false) ∧ S.Empty c d = true, .agg [.int false .i64 1, .int false .i64 0], []) by kernel_rfl) ⟨⟨trivial, h0⟩, h1⟩).says (Says.agg (.cons (Says.int (by simp only [S.Sgth_0, h1, h0, cond_true, cond_false])) (.cons (Says.int (by simp only [S.Sgth_1, h1, h0, cond_true, cond_false])) (.nil))))
  ·
   rcases Bool.eq_false_or_eq_true (S.One_1 a b) with h2 | h2
   ·
    rcases Bool.eq_false_or_eq_true (S.One_1 c d) with h3 | h3
    ·
     rcases Bool.eq_false_or_eq_true (S.Bgt_1 (S.One_0 a b) (S.One_0 c d) != 0) with h4 | h4
     ·
      exact (sim_run (S.hE S.o_Sleq_ok) (show run _ 15 [.str false ⟨#[62]⟩, .agg [.int true .i64 a, .int true .i64 b], .agg [.int true .i64 c, .int true .i64 d]] [] [.br false, .br false, .br true, .br true, .br true] = some (((((True ∧ S.Empty a b = false) ∧ S.Empty c d = false) ∧ S.One_1 a b = true) ∧ S.One_1 c d = true) ∧ (S.Bgt_1 (S.One_0 a b) (S.One_0 c d) != 0) = true, .agg [.int false .i64 1, .int false .i64 0], []) by kernel_rfl) ⟨⟨⟨⟨⟨trivial, h0⟩, h1⟩, h2⟩, h3⟩, h4⟩).says (Says.agg (.cons (Says.int (by simp only [S.Sgth_0, h4, h3, h2, h1, h0, cond_true, cond_false])) (.cons (Says.int (by simp only [S.Sgth_1, h4, h3, h2, h1, h0, cond_true, cond_false])) (.nil))))
     ·
      exact (sim_run (S.hE S.o_Sleq_ok) (show run _ 15 [.str false ⟨#[62]⟩, .agg [.int true .i64 a, .int true .i64 b], .agg [.int true .i64 c, .int true .i64 d]] [] [.br false, .br false, .br true, .br true, .br false] = some (((((True ∧ S.Empty a b = false) ∧ S.Empty c d = false) ∧ S.One_1 a b = true) ∧ S.One_1 c d = true) ∧ (S.Bgt_1 (S.One_0 a b) (S.One_0 c d) != 0) = false, .agg [.int true .i64 (S.Of_0 (S.Bgt_0 (S.One_0 a b) (S.One_0 c d))), .int true .i64 (S.Of_1 (S.Bgt_0 (S.One_0 a b) (S.One_0 c d)))], []) by kernel_rfl) ⟨⟨⟨⟨⟨trivial, h0⟩, h1⟩, h2⟩, h3⟩, h4⟩).says (Says.agg (.cons (Says.int (by simp only [S.Sgth_0, h4, h3, h2, h1, h0, cond_true, cond_false])) (.cons (Says.int (by simp only [S.Sgth_1, h4, h3, h2, h1, h0, cond_true, cond_false])) (.nil))))
    ·
     exact (sim_run (S.hE S.o_Sleq_ok) (show run _ 15 [.str false ⟨#[62]⟩, .agg [.int true .i64 a, .int true .i64 b], .agg [.int true .i64 c, .int true .i64 d]] [] [.br false, .br false, .br true, .br false] = some ((((True ∧ S.Empty a b = false) ∧ S.Empty c d = false) ∧ S.One_1 a b = true) ∧ S.One_1 c d = false, .agg [.int true .i64 (S.cgt_0 a b c d), .int true .i64 (S.cgt_1 a b c d)], []) by kernel_rfl) ⟨⟨⟨⟨trivial, h0⟩, h1⟩, h2⟩, h3⟩).says (Says.agg (.cons (Says.int (by simp only [S.Sgth_0, h3, h2, h1, h0, cond_true, cond_false])) (.cons (Says.int (by simp only [S.Sgth_1, h3, h2, h1, h0, cond_true, cond_false])) (.nil))))
   ·
    exact (sim_run (S.hE S.o_Sleq_ok) (show run _ 15 [.str false ⟨#[62]⟩, .agg [.int true .i64 a, .int true .i64 b], .agg [.int true .i64 c, .int true .i64 d]] [] [.br false, .br false, .br false] = some (((True ∧ S.Empty a b = false) ∧ S.Empty c d = false) ∧ S.One_1 a b = false, .agg [.int true .i64 (S.cgt_0 a b c d), .int true .i64 (S.cgt_1 a b c d)], []) by kernel_rfl) ⟨⟨⟨trivial, h0⟩, h1⟩, h2⟩).says (Says.agg (.cons (Says.int (by simp only [S.Sgth_0, h2, h1, h0, cond_true, cond_false])) (.cons (Says.int (by simp only [S.Sgth_1, h2, h1, h0, cond_true, cond_false])) (.nil))))
def S.o_Sgth : Orc := orcAdd 15 (fun | [.str true t0, .agg [.int true .i64 a, .int true .i64 b], .agg [.int true .i64 c, .int true .i64 d]] => (match t0.data.toList == [62] with | true => some (.agg [.int true .i64 (S.Sgth_0 a b c d), .int true .i64 (S.Sgth_1 a b c d)]) | false => none) | _ => none) S.o_Sleq
theorem S.o_Sgth_ok : OrcOk prog S.o_Sgth := orcAdd_ok S.o_Sleq_ok fun a v h => by
  try dsimp only at h
  split at h
  · rename_i t0 a b c d
    split at h
    · rename_i ht; cases h; have ht0 := ht; obtain rfl := ba_eq ht0; exact S.Sgth_sim a b c d
    · cases h
  · cases h
def S.Sgeq_0 (a b c d : Int) : Int := (bif S.Empty a b then (1) else (bif S.Empty c d then (1) else (bif S.One_1 a b then (bif S.One_1 c d then (bif S.Bge_1 (S.One_0 a b) (S.One_0 c d) != 0 then (1) else (S.Of_0 (S.Bge_0 (S.One_0 a b) (S.One_0 c d)))) else (S.cge_0 a b c d)) else (S.cge_0 a b c d))))
def S.Sgeq_1 (a b c d : Int) : Int := (bif S.Empty a b then (0) else (bif S.Empty c d then (0) else (bif S.One_1 a b then (bif S.One_1 c d then (bif S.Bge_1 (S.One_0 a b) (S.One_0 c d) != 0 then (0) else (S.Of_1 (S.Bge_0 (S.One_0 a b) (S.One_0 c d)))) else (S.cge_1 a b c d)) else (S.cge_1 a b c d))))
theorem S.Sgeq_sim (a b c d : Int) : Sim prog 15 [.str true ⟨#[62, 61]⟩, .agg [.int true .i64 a, .int true .i64 b], .agg [.int true .i64 c, .int true .i64 d]] [] (.agg [.int true .i64 (S.Sgeq_0 a b c d), .int true .i64 (S.Sgeq_1 a b c d)]) [] := by
 refine Sim.args (args' := [.str false ⟨#[62, 61]⟩, .agg [.int true .i64 a, .int true .i64 b], .agg [.int true .i64 c, .int true .i64 d]]) ?_ (.cons (Says.str rfl) (.cons (Says.refl _) (.cons (Says.refl _) (.nil))))
 rcases Bool.eq_false_or_eq_true (S.Empty a b) with h0 | h0
 ·
  exact (sim_run (S.hE S.o_Sgth_ok) (show run _ 15 [.str false ⟨#[62, 61]⟩, .agg [.int true .i64 a, .int true .i64 b], .agg [.int true .i64 c, .int true .i64 d]] [] [.br true] = some (True ∧ S.Empty a b = true, .agg [.int false .i64 1, .int false .i64 0], []) by kernel_rfl) ⟨trivial, h0⟩).says (Says.agg (.cons (Says.int (by simp only [S.Sgeq_0, h0, cond_true, cond_false])) (.cons (Says.int (by simp only [S.Sgeq_1, h0, cond_true, cond_false])) (.nil))))
 ·
  rcases Bool.eq_false_or_eq_true (S.Empty c d) with h1 | h1
  ·
   exact (sim_run (S.hE S.o_Sgth_ok) (show run _ 15 [.str false ⟨#[62, 61]⟩, .agg [.int true .i64 a, .int true .i64 b], .agg [.int true .i64 c, .int true .i64 d]] [] [.br false, .br true] = some ((True ∧ S.Empty a b = false) ∧ S.Empty c d = true, .agg [.int false .i64 1, .int false .i64 0], []) by kernel_rfl) ⟨⟨trivial, h0⟩, h1⟩).says (Says.agg (.cons (Says.int (by simp only [S.Sgeq_0, h1, h0, cond_true, cond_false])) (.cons (Says.int (by simp only [S.Sgeq_1, h1, h0, cond_true, cond_false])) (.nil))))
  ·
   rcases Bool.eq_false_or_eq_true (S.One_1 a b) with h2 | h2
   ·
    rcases Bool.eq_false_or_eq_true (S.One_1 c d) with h3 | h3
    ·
     rcases Bool.eq_false_or_eq_true (S.Bge_1 (S.One_0 a b) (S.One_0 c d) != 0) with h4 | h4
     ·
      exact (sim_run (S.hE S.o_Sgth_ok) (show run _ 15 [.str false ⟨#[62, 61]⟩, .agg [.int true .i64 a, .int true .i64 b], .agg [.int true .i64 c, .int true .i64 d]] [] [.br false, .br false, .br true, .br true, .br true] = some (((((True ∧ S.Empty a b = false) ∧ S.Empty c d = false) ∧ S.One_1 a b = true) ∧ S.One_1 c d = true) ∧ (S.Bge_1 (S.One_0 a b) (S.One_0 c d) != 0) = true, .agg [.int false .i64 1, .int false .i64 0], []) by kernel_rfl) ⟨⟨⟨⟨⟨trivial, h0⟩, h1⟩, h2⟩, h3⟩, h4⟩).says (Says.agg (.cons (Says.int (by simp only [S.Sgeq_0, h4, h3, h2, h1, h0, cond_true, cond_false])) (.cons (Says.int (by simp only [S.Sgeq_1, h4, h3, h2, h1, h0, cond_true, cond_false])) (.nil))))
     ·
      exact (sim_run (S.hE S.o_Sgth_ok) (show run _ 15 [.str false ⟨#[62, 61]⟩, .agg [.int true .i64 a, .int true .i64 b], .agg [.int true .i64 c, .int true .i64 d]] [] [.br false, .br false, .br true, .br true, .br false] = some (((((True ∧ S.Empty a b = false) ∧ S.Empty c d = false) ∧ S.One_1 a b = true) ∧ S.One_1 c d = true) ∧ (S.Bge_1 (S.One_0 a b) (S.One_0 c d) != 0) = false, .agg [.int true .i64 (S.Of_0 (S.Bge_0 (S.One_0 a b) (S.One_0 c d))), .int true .i64 (S.Of_1 (S.Bge_0 (S.One_0 a b) (S.One_0 c d)))], []) by kernel_rfl) ⟨⟨⟨⟨⟨trivial, h0⟩, h1⟩, h2⟩, h3⟩, h4⟩).says (Says.agg (.cons (Says.int (by simp only [S.Sgeq_0, h4, h3, h2, h1, h0, cond_true, cond_false])) (.cons (Says.int (by simp only [S.Sgeq_1, h4, h3, h2, h1, h0, cond_true, cond_false])) (.nil))))
    ·
     exact (sim_run (S.hE S.o_Sgth_ok) (show run _ 15 [.str false ⟨#[62, 61]⟩, .agg [.int true .i64 a, .int true .i64 b], .agg [.int true .i64 c, .int true .i64 d]] [] [.br false, .br false, .br true, .br false] = some ((((True ∧ S.Empty a b = false) ∧ S.Empty c d = false) ∧ S.One_1 a b = true) ∧ S.One_1 c d = false, .agg [.int true .i64 (S.cge_0 a b c d), .int true .i64 (S.cge_1 a b c d)], []) by kernel_rfl) ⟨⟨⟨⟨trivial, h0⟩, h1⟩, h2⟩, h3⟩).says (Says.agg (.cons (Says.int (by simp only [S.Sgeq_0, h3, h2, h1, h0, cond_true, cond_false])) (.cons (Says.int (by simp only [S.Sgeq_1, h3, h2, h1, h0, cond_true, cond_false])) (.nil))))
   ·
    exact (sim_run (S.hE S.o_Sgth_ok) (show run _ 15 [.str false ⟨#[62, 61]⟩, .agg [.int true .i64 a, .int true .i64 b], .agg [.int true .i64 c, .int true .i64 d]] [] [.br false, .br false, .br false] = some (((True ∧ S.Empty a b = false) ∧ S.Empty c d = false) ∧ S.One_1 a b = false, .agg [.int true .i64 (S.cge_0 a b c d), .int true .i64 (S.cge_1 a b c d)], []) by kernel_rfl) ⟨⟨⟨trivial, h0⟩, h1⟩, h2⟩).says (Says.agg (.cons (Says.int (by simp only [S.Sgeq_0, h2, h1, h0, cond_true, cond_false])) (.cons (Says.int (by simp only [S.Sgeq_1, h2, h1, h0, cond_true, cond_false])) (.nil))))
def S.o_Sgeq : Orc := orcAdd 15 (fun | [.str true t0, .agg [.int true .i64 a, .int true .i64 b], .agg [.int true .i64 c, .int true .i64 d]] => (match t0.data.toList == [62, 61] with | true => some (.agg [.int true .i64 (S.Sgeq_0 a b c d), .int true .i64 (S.Sgeq_1 a b c d)]) | false => none) | _ => none) S.o_Sgth
theorem S.o_Sgeq_ok : OrcOk prog S.o_Sgeq := orcAdd_ok S.o_Sgth_ok fun a v h => by
  try dsimp only at h
  split at h
  · rename_i t0 a b c d
    split at h
    · rename_i ht; cases h; have ht0 := ht; obtain rfl := ba_eq ht0; exact S.Sgeq_sim a b c d
    · cases h
  · cases h
def S.Sleft_0 (a b c d : Int) : Int := (bif S.Empty a b then (1) else (bif S.Empty c d then (1) else (bif S.One_1 a b then (bif S.One_1 c d then (bif S.Bleft_1 (S.One_0 a b) (S.One_0 c d) != 0 then (1) else (S.Of_0 (S.Bleft_0 (S.One_0 a b) (S.One_0 c d)))) else (S.shl_0 a b c d)) else (S.shl_0 a b c d))))
def S.Sleft_1 (a b c d : Int) : Int := (bif S.Empty a b then (0) else (bif S.Empty c d then (0) else (bif S.One_1 a b then (bif S.One_1 c d then (bif S.Bleft_1 (S.One_0 a b) (S.One_0 c d) != 0 then (0) else (S.Of_1 (S.Bleft_0 (S.One_0 a b) (S.One_0 c d)))) else (S.shl_1 a b c d)) else (S.shl_1 a b c d))))
theorem S.Sleft_sim (a b c d : Int) : Sim prog 15 [.str true ⟨#[60, 60]⟩, .agg [.int true .i64 a, .int true .i64 b], .agg [.int true .i64 c, .int true .i64 d]] [] (.agg [.int true .i64 (S.Sleft_0 a b c d), .int true .i64 (S.Sleft_1 a b c d)]) [] := by
 refine Sim.args (args' := [.str false ⟨#[60, 60]⟩, .agg [.int true .i64 a, .int true .i64 b], .agg [.int true .i64 c, .int true .i64 d]]) ?_ (.cons (Says.str rfl) (.cons (Says.refl _) (.cons (Says.refl _) (.nil))))
 rcases Bool.eq_false_or_eq_true (S.Empty a b) with h0 | h0
 ·
  exact (sim_run (S.hE S.o_Sgeq_ok) (show run _ 15 [.str false ⟨#[60, 60]⟩, .agg [.int true .i64 a, .int true .i64 b], .agg [.int true .i64 c, .int true .i64 d]] [] [.br true] = some (True ∧ S.Empty a b = true, .agg [.int false .i64 1, .int false .i64 0], []) by kernel_rfl) ⟨trivial, h0⟩).says (Says.agg (.cons (Says.int (by simp only [S.Sleft_0, h0, cond_true, cond_false])) (.cons (Says.int (by simp only [S.Sleft_1, h0, cond_true, cond_false])) (.nil))))
 ·
  rcases Bool.eq_false_or_eq_true (S.Empty c d) with h1 | h1
  ·
   exact (sim_run (S.hE S.o_Sgeq_ok) (show run _ 15 [.str false ⟨#[60, 60]⟩, .agg [.int true .i64 a, .int true .i64 b], .agg [.int true .i64 c, .int true .i64 d]] [] [.br false, .br true] = some ((True ∧ S.Empty a b = false) ∧ S.Empty c d = true, .agg [.int false .i64 1, .int false .i64 0], []) by kernel_rfl) ⟨⟨trivial, h0⟩, h1⟩).says (Says.agg (.cons (Says.int (by simp only [S.Sleft_0, h1, h0, cond_true, cond_false])) (.cons (Says.int (by simp only [S.Sleft_1, h1, h0, cond_true, cond_false])) (.nil))))
  ·
   rcases Bool.eq_false_or_eq_true (S.One_1 a b) with h2 | h2
   ·
    rcases Bool.eq_false_or_eq_true (S.One_1 c d) with h3 | h3
    ·
     rcases Bool.eq_false_or_eq_true (S.Bleft_1 (S.One_0 a b) (S.One_0 c d) != 0) with h4 | h4
     ·
      exact (sim_run (S.hE S.o_Sgeq_ok) (show run _ 15 [.str false ⟨#[60, 60]⟩, .agg [.int true .i64 a, .int true .i64 b], .agg [.int true .i64 c, .int true .i64 d]] [] [.br false, .br false, .br true, .br true, .br true] = some (((((True ∧ S.Empty a b = false) ∧ S.Empty c d = false) ∧ S.One_1 a b = true) ∧ S.One_1 c d = true) ∧ (S.Bleft_1 (S.One_0 a b) (S.One_0 c d) != 0) = true, .agg [.int false .i64 1, .int false .i64 0], []) by kernel_rfl) ⟨⟨⟨⟨⟨trivial, h0⟩, h1⟩, h2⟩, h3⟩, h4⟩).says (Says.agg (.cons (Says.int (by simp only [S.Sleft_0, h4, h3, h2, h1, h0, cond_true, cond_false])) (.cons (Says.int (by simp only [S.Sleft_1, h4, h3, h2, h1, h0, cond_true, cond_false])) (.nil))))
     ·
      exact (sim_run (S.hE S.o_Sgeq_ok) (show run _ 15 [.str false ⟨#[60, 60]⟩, .agg [.int true .i64 a, .int true .i64 b], .agg [.int true .i64 c, .int true .i64 d]] [] [.br false, .br false, .br true, .br true, .br false] = some (((((True ∧ S.Empty a b = false) ∧ S.Empty c d = false) ∧ S.One_1 a b = true) ∧ S.One_1 c d = true) ∧ (S.Bleft_1 (S.One_0 a b) (S.One_0 c d) != 0) = false, .agg [.int true .i64 (S.Of_0 (S.Bleft_0 (S.One_0 a b) (S.One_0 c d))), .int true .i64 (S.Of_1 (S.Bleft_0 (S.One_0 a b) (S.One_0 c d)))], []) by kernel_rfl) ⟨⟨⟨⟨⟨trivial, h0⟩, h1⟩, h2⟩, h3⟩, h4⟩).says (Says.agg (.cons (Says.int (by simp only [S.Sleft_0, h4, h3, h2, h1, h0, cond_true, cond_false])) (.cons (Says.int (by simp only [S.Sleft_1, h4, h3, h2, h1, h0, cond_true, cond_false])) (.nil))))
    ·
     exact (sim_run (S.hE S.o_Sgeq_ok) (show run _ 15 [.str false ⟨#[60, 60]⟩, .agg [.int true .i64 a, .int true .i64 b], .agg [.int true .i64 c, .int true .i64 d]] [] [.br false, .br false, .br true, .br false] = some ((((True ∧ S.Empty a b = false) ∧ S.Empty c d = false) ∧ S.One_1 a b = true) ∧ S.One_1 c d = false, .agg [.int true .i64 (S.shl_0 a b c d), .int true .i64 (S.shl_1 a b c d)], []) by kernel_rfl) ⟨⟨⟨⟨trivial, h0⟩, h1⟩, h2⟩, h3⟩).says (Says.agg (.cons (Says.int (by simp only [S.Sleft_0, h3, h2, h1, h0, cond_true, cond_false])) (.cons (Says.int (by simp only [S.Sleft_1, h3, h2, h1, h0, cond_true, cond_false])) (.nil))))
   ·
    exact (sim_run (S.hE S.o_Sgeq_ok) (show run _ 15 [.str false ⟨#[60, 60]⟩, .agg [.int true .i64 a, .int true .i64 b], .agg [.int true .i64 c, .int true .i64 d]] [] [.br false, .br false, .br false] = some (((True ∧ S.Empty a b = false) ∧ S.Empty c d = false) ∧ S.One_1 a b = false, .agg [.int true .i64 (S.shl_0 a b c d), .int true .i64 (S.shl_1 a b c d)], []) by kernel_rfl) ⟨⟨⟨trivial, h0⟩, h1⟩, h2⟩).says (Says.agg (.cons (Says.int (by simp only [S.Sleft_0, h2, h1, h0, cond_true, cond_false])) (.cons (Says.int (by simp only [S.Sleft_1, h2, h1, h0, cond_true, cond_false])) (.nil))))
def S.o_Sleft : Orc := orcAdd 15 (fun | [.str true t0, .agg [.int true .i64 a, .int true .i64 b], .agg [.int true .i64 c, .int true .i64 d]] => (match t0.data.toList == [60, 60] with | true => some (.agg [.int true .i64 (S.Sleft_0 a b c d), .int true .i64 (S.Sleft_1 a b c d)]) | false => none) | _ => none) S.o_Sgeq
theorem S.o_Sleft_ok : OrcOk prog S.o_Sleft := orcAdd_ok S.o_Sgeq_ok fun a v h => by
  try dsimp only at h
  split at h
  · rename_i t0 a b c d
    split at h
    · rename_i ht; cases h; have ht0 := ht; obtain rfl := ba_eq ht0; exact S.Sleft_sim a b c d
    · cases h
  · cases h
def S.Sright_0 (a b c d : Int) : Int := (bif S.Empty a b then (1) else (bif S.Empty c d then (1) else (bif S.One_1 a b then (bif S.One_1 c d then (bif S.Bright_1 (S.One_0 a b) (S.One_0 c d) != 0 then (1) else (S.Of_0 (S.Bright_0 (S.One_0 a b) (S.One_0 c d)))) else (S.shr_0 a b c d)) else (S.shr_0 a b c d))))
def S.Sright_1 (a b c d : Int) : Int := (bif S.Empty a b then (0) else (bif S.Empty c d then (0) else (bif S.One_1 a b then (bif S.One_1 c d then (bif S.Bright_1 (S.One_0 a b) (S.One_0 c d) != 0 then (0) else (S.Of_1 (S.Bright_0 (S.One_0 a b) (S.One_0 c d)))) else (S.shr_1 a b c d)) else (S.shr_1 a b c d))))
theorem S.Sright_sim (a b c d : Int) : Sim prog 15 [.str true ⟨#[62, 62]⟩, .agg [.int true .i64 a, .int true .i64 b], .agg [.int true .i64 c, .int true .i64 d]] [] (.agg [.int true .i64 (S.Sright_0 a b c d), .int true .i64 (S.Sright_1 a b c d)]) [] := by
 refine Sim.args (args' := [.str false ⟨#[62, 62]⟩, .agg [.int true .i64 a, .int true .i64 b], .agg [.int true .i64 c, .int true .i64 d]]) ?_ (.cons (Says.str rfl) (.cons (Says.refl _) (.cons (Says.refl _) (.nil))))
 rcases Bool.eq_false_or_eq_true (S.Empty a b) with h0 | h0
 ·
  exact (sim_run (S.hE S.o_Sleft_ok) (show run _ 15 [.str false ⟨#[62, 62]⟩, .agg [.int true .i64 a, .int true .i64 b], .agg [.int true .i64 c, .int true .i64 d]] [] [.br true] = some (True ∧ S.Empty a b = true, .agg [.int false .i64 1, .int false .i64 0], []) by kernel_rfl) ⟨trivial, h0⟩).says (Says.agg (.cons (Says.int (by simp only [S.Sright_0, h0, cond_true, cond_false])) (.cons (Says.int (by simp only [S.Sright_1, h0, cond_true, cond_false])) (.nil))))
 ·
  rcases Bool.eq_false_or_eq_true (S.Empty c d) with h1 | h1
  ·
   exact (sim_run (S.hE S.o_Sleft_ok) (show run _ 15 [.str false ⟨#[62, 62]⟩, .agg [.int true .i64 a, .int true .i64 b], .agg [.int true .i64 c, .int true .i64 d]] [] [.br false, .br true] = some ((True ∧ S.Empty a b = false) ∧ S.Empty c d = true, .agg [.int false .i64 1, .int false .i64 0], []) by kernel_rfl) ⟨⟨trivial, h0⟩, h1⟩).says (Says.agg (.cons (Says.int (by simp only [S.Sright_0, h1, h0, cond_true, cond_false])) (.cons (Says.int (by simp only [S.Sright_1, h1, h0, cond_true, cond_false])) (.nil))))
  ·
   rcases Bool.eq_false_or_eq_true (S.One_1 a b) with h2 | h2
   ·
    rcases Bool.eq_false_or_eq_true (S.One_1 c d) with h3 | h3
    ·
     rcases Bool.eq_false_or_eq_true (S.Bright_1 (S.One_0 a b) (S.One_0 c d) != 0) with h4 | h4
     ·
      exact (sim_run (S.hE S.o_Sleft_ok) (show run _ 15 [.str false ⟨#[62, 62]⟩, .agg [.int true .i64 a, .int true .i64 b], .agg [.int true .i64 c, .int true .i64 d]] [] [.br false, .br false, .br true, .br true, .br true] = some (((((True ∧ S.Empty a b = false) ∧ S.Empty c d = false) ∧ S.One_1 a b = true) ∧ S.One_1 c d = true) ∧ (S.Bright_1 (S.One_0 a b) (S.One_0 c d) != 0) = true, .agg [.int false .i64 1, .int false .i64 0], []) by kernel_rfl) ⟨⟨⟨⟨⟨trivial, h0⟩, h1⟩, h2⟩, h3⟩, h4⟩).says (Says.agg (.cons (Says.int (by simp only [S.Sright_0, h4, h3, h2, h1, h0, cond_true, cond_false])) (.cons (Says.int (by simp only [S.Sright_1, h4, h3, h2, h1, h0, cond_true, cond_false])) (.nil))))
     ·
      exact (sim_run (S.hE S.o_Sleft_ok) (show run _ 15 [.str false ⟨#[62, 62]⟩, .agg [.int true .i64 a, .int true .i64 b], .agg [.int true .i64 c, .int true .i64 d]] [] [.br false, .br false, .br true, .br true, .br false] = some (((((True ∧ S.Empty a b = false) ∧ S.Empty c d = false) ∧ S.One_1 a b = true) ∧ S.One_1 c d = true) ∧ (S.Bright_1 (S.One_0 a b) (S.One_0 c d) != 0) = false, .agg [.int true .i64 (S.Of_0 (S.Bright_0 (S.One_0 a b) (S.One_0 c d))), .int true .i64 (S.Of_1 (S.Bright_0 (S.One_0 a b) (S.One_0 c d)))], []) by kernel_rfl) ⟨⟨⟨⟨⟨trivial, h0⟩, h1⟩, h2⟩, h3⟩, h4⟩).says (Says.agg (.cons (Says.int (by simp only [S.Sright_0, h4, h3, h2, h1, h0, cond_true, cond_false])) (.cons (Says.int (by simp only [S.Sright_1, h4, h3, h2, h1, h0, cond_true, cond_false])) (.nil))))
    ·
     exact (sim_run (S.hE S.o_Sleft_ok) (show run _ 15 [.str false ⟨#[62, 62]⟩, .agg [.int true .i64 a, .int true .i64 b], .agg [.int true .i64 c, .int true .i64 d]] [] [.br false, .br false, .br true, .br false] = some ((((True ∧ S.Empty a b = false) ∧ S.Empty c d = false) ∧ S.One_1 a b = true) ∧ S.One_1 c d = false, .agg [.int true .i64 (S.shr_0 a b c d), .int true .i64 (S.shr_1 a b c d)], []) by kernel_rfl) ⟨⟨⟨⟨trivial, h0⟩, h1⟩, h2⟩, h3⟩).says (Says.agg (.cons (Says.int (by simp only [S.Sright_0, h3, h2, h1, h0, cond_true, cond_false])) (.cons (Says.int (by simp only [S.Sright_1, h3, h2, h1, h0, cond_true, cond_false])) (.nil))))
   ·
    exact (sim_run (S.hE S.o_Sleft_ok) (show run _ 15 [.str false ⟨#[62, 62]⟩, .agg [.int true .i64 a, .int true .i64 b], .agg [.int true .i64 c, .int true .i64 d]] [] [.br false, .br false, .br false] = some (((True ∧ S.Empty a b = false) ∧ S.Empty c d = false) ∧ S.One_1 a b = false, .agg [.int true .i64 (S.shr_0 a b c d), .int true .i64 (S.shr_1 a b c d)], []) by kernel_rfl) ⟨⟨⟨trivial, h0⟩, h1⟩, h2⟩).says (Says.agg (.cons (Says.int (by simp only [S.Sright_0, h2, h1, h0, cond_true, cond_false])) (.cons (Says.int (by simp only [S.Sright_1, h2, h1, h0, cond_true, cond_false])) (.nil))))
def S.o_Sright : Orc := orcAdd 15 (fun | [.str true t0, .agg [.int true .i64 a, .int true .i64 b], .agg [.int true .i64 c, .int true .i64 d]] => (match t0.data.toList == [62, 62] with | true => some (.agg [.int true .i64 (S.Sright_0 a b c d), .int true .i64 (S.Sright_1 a b c d)]) | false => none) | _ => none) S.o_Sleft
theorem S.o_Sright_ok : OrcOk prog S.o_Sright := orcAdd_ok S.o_Sleft_ok fun a v h => by
  try dsimp only at h
  split at h
  · rename_i t0 a b c d
    split at h
    · rename_i ht; cases h; have ht0 := ht; obtain rfl := ba_eq ht0; exact S.Sright_sim a b c d
    · cases h
  · cases h
def S.Sadd_0 (a b c d : Int) : Int := (bif S.Empty a b then (1) else (bif S.Empty c d then (1) else (bif S.One_1 a b then (bif S.One_1 c d then (bif S.Badd_1 (S.One_0 a b) (S.One_0 c d) != 0 then (1) else (S.Of_0 (S.Badd_0 (S.One_0 a b) (S.One_0 c d)))) else (S.eadd_0 a b c d)) else (S.eadd_0 a b c d))))
def S.Sadd_1 (a b c d : Int) : Int := (bif S.Empty a b then (0) else (bif S.Empty c d then (0) else (bif S.One_1 a b then (bif S.One_1 c d then (bif S.Badd_1 (S.One_0 a b) (S.One_0 c d) != 0 then (0) else (S.Of_1 (S.Badd_0 (S.One_0 a b) (S.One_0 c d)))) else (S.eadd_1 a b c d)) else (S.eadd_1 a b c d))))
theorem S.Sadd_sim (a b c d : Int) : Sim prog 15 [.str true ⟨#[43]⟩, .agg [.int true .i64 a, .int true .i64 b], .agg [.int true .i64 c, .int true .i64 d]] [] (.agg [.int true .i64 (S.Sadd_0 a b c d), .int true .i64 (S.Sadd_1 a b c d)]) [] := by
 refine Sim.args (args' := [.str false ⟨#[43]⟩, .agg [.int true .i64 a, .int true .i64 b], .agg [.int true .i64 c, .int true .i64 d]]) ?_ (.cons (Says.str rfl) (.cons (Says.refl _) (.cons (Says.refl _) (.nil))))
 rcases Bool.eq_false_or_eq_true (S.Empty a b) with h0 | h0
 ·
  exact (sim_run (S.hE S.o_Sright_ok) (show run _ 15 [.str false ⟨#[43]⟩, .agg [.int true .i64 a, .int true .i64 b], .agg [.int true .i64 c, .int true .i64 d]] [] [.br true] = some (True ∧ S.Empty a b = true, .agg [.int false .i64 1, .int false .i64 0], []) by kernel_rfl) ⟨trivial, h0⟩).says (Says.agg (.cons (Says.int (by simp only [S.Sadd_0, h0, cond_true, cond_false])) (.cons (Says.int (by simp only [S.Sadd_1, h0, cond_true, cond_false])) (.nil))))
 ·
  rcases Bool.eq_false_or_eq_true (S.Empty c d) with h1 | h1
  ·
   exact (sim_run (S.hE S.o_Sright_ok) (show run _ 15 [.str false ⟨#[43]⟩, .agg [.int true .i64 a, .int true .i64 b], .agg [.int true .i64 c, .int true .i64 d]] [] [.br false, .br true] = some ((True ∧ S.Empty a b = false) ∧ S.Empty c d = true, .agg [.int false .i64 1, .int false .i64 0], []) by kernel_rfl) ⟨⟨trivial, h0⟩, h1⟩).says (Says.agg (.cons (Says.int (by simp only [S.Sadd_0, h1, h0, cond_true, cond_false])) (.cons (Says.int (by simp only [S.Sadd_1, h1, h0, cond_true, cond_false])) (.nil))))
  ·
   rcases Bool.eq_false_or_eq_true (S.One_1 a b) with h2 | h2
   ·
    rcases Bool.eq_false_or_eq_true (S.One_1 c d) with h3 | h3
    ·
     rcases Bool.eq_false_or_eq_true (S.Badd_1 (S.One_0 a b) (S.One_0 c d) != 0) with h4 | h4
     ·
      exact (sim_run (S.hE S.o_Sright_ok) (show run _ 15 [.str false ⟨#[43]⟩, .agg [.int true .i64 a, .int true .i64 b], .agg [.int true .i64 c, .int true .i64 d]] [] [.br false, .br false, .br true, .br true, .br true] = some (((((True ∧ S.Empty a b = false) ∧ S.Empty c d = false) ∧ S.One_1 a b = true) ∧ S.One_1 c d = true) ∧ (S.Badd_1 (S.One_0 a b) (S.One_0 c d) != 0) = true, .agg [.int false .i64 1, .int false .i64 0], []) by kernel_rfl) ⟨⟨⟨⟨⟨trivial, h0⟩, h1⟩, h2⟩, h3⟩, h4⟩).says (Says.agg (.cons (Says.int (by simp only [S.Sadd_0, h4, h3, h2, h1, h0, cond_true, cond_false])) (.cons (Says.int (by simp only [S.Sadd_1, h4, h3, h2, h1, h0, cond_true, cond_false])) (.nil))))
     ·
      exact (sim_run (S.hE S.o_Sright_ok) (show run _ 15 [.str false ⟨#[43]⟩, .agg [.int true .i64 a, .int true .i64 b], .agg [.int true .i64 c, .int true .i64 d]] [] [.br false, .br false, .br true, .br true, .br false] = some (((((True ∧ S.Empty a b = false) ∧ S.Empty c d = false) ∧ S.One_1 a b = true) ∧ S.One_1 c d = true) ∧ (S.Badd_1 (S.One_0 a b) (S.One_0 c d) != 0) = false, .agg [.int true .i64 (S.Of_0 (S.Badd_0 (S.One_0 a b) (S.One_0 c d))), .int true .i64 (S.Of_1 (S.Badd_0 (S.One_0 a b) (S.One_0 c d)))], []) by kernel_rfl) ⟨⟨⟨⟨⟨trivial, h0⟩, h1⟩, h2⟩, h3⟩, h4⟩).says (Says.agg (.cons (Says.int (by simp only [S.Sadd_0, h4, h3, h2, h1, h0, cond_true, cond_false])) (.cons (Says.int (by simp only [S.Sadd_1, h4, h3, h2, h1, h0, cond_true, cond_false])) (.nil))))
    ·
     exact (sim_run (S.hE S.o_Sright_ok) (show run _ 15 [.str false ⟨#[43]⟩, .agg [.int true .i64 a, .int true .i64 b], .agg [.int true .i64 c, .int true .i64 d]] [] [.br false, .br false, .br true, .br false] = some ((((True ∧ S.Empty a b = false) ∧ S.Empty c d = false) ∧ S.One_1 a b = true) ∧ S.One_1 c d = false, .agg [.int true .i64 (S.eadd_0 a b c d), .int true .i64 (S.eadd_1 a b c d)], []) by kernel_rfl) ⟨⟨⟨⟨trivial, h0⟩, h1⟩, h2⟩, h3⟩).says (Says.agg (.cons (Says.int (by simp only [S.Sadd_0, h3, h2, h1, h0, cond_true, cond_false])) (.cons (Says.int (by simp only [S.Sadd_1, h3, h2, h1, h0, cond_true, cond_false])) (.nil))))
   ·
    exact (sim_run (S.hE S.o_Sright_ok) (show run _ 15 [.str false ⟨#[43]⟩, .agg [.int true .i64 a, .int true .i64 b], .agg [.int true .i64 c, .int true .i64 d]] [] [.br false, .br false, .br false] = some (((True ∧ S.Empty a b = false) ∧ S.Empty c d = false) ∧ S.One_1 a b = false, .agg [.int true .i64 (S.eadd_0 a b c d), .int true .i64 (S.eadd_1 a b c d)], []) by kernel_rfl) ⟨⟨⟨trivial, h0⟩, h1⟩, h2⟩).says (Says.agg (.cons (Says.int (by simp only [S.Sadd_0, h2, h1, h0, cond_true, cond_false])) (.cons (Says.int (by simp only [S.Sadd_1, h2, h1, h0, cond_true, cond_false])) (.nil))))
def S.o_Sadd : Orc := orcAdd 15 (fun | [.str true t0, .agg [.int true .i64 a, .int true .i64 b], .agg [.int true .i64 c, .int true .i64 d]] => (match t0.data.toList == [43] with | true => some (.agg [.int true .i64 (S.Sadd_0 a b c d), .int true .i64 (S.Sadd_1 a b c d)]) | false => none) | _ => none) S.o_Sright
theorem S.o_Sadd_ok : OrcOk prog S.o_Sadd := orcAdd_ok S.o_Sright_ok fun a v h => by
  try dsimp only at h
  split at h
  · rename_i t0 a b c d
    split at h
    · rename_i ht; cases h; have ht0 := ht; obtain rfl := ba_eq ht0; exact S.Sadd_sim a b c d
    · cases h
  · cases h
def S.Ssub_0 (a b c d : Int) : Int := (bif S.Empty a b then (1) else (bif S.Empty c d then (1) else (bif S.One_1 a b then (bif S.One_1 c d then (bif S.Bsub_1 (S.One_0 a b) (S.One_0 c d) != 0 then (1) else (S.Of_0 (S.Bsub_0 (S.One_0 a b) (S.One_0 c d)))) else (S.esub_0 a b c d)) else (S.esub_0 a b c d))))
def S.Ssub_1 (a b c d : Int) : Int := (bif S.Empty a b then (0) else (bif S.Empty c d then (0) else (bif S.One_1 a b then (bif S.One_1 c d then (bif S.Bsub_1 (S.One_0 a b) (S.One_0 c d) != 0 then (0) else (S.Of_1 (S.Bsub_0 (S.One_0 a b) (S.One_0 c d)))) else (S.esub_1 a b c d)) else (S.esub_1 a b c d))))
theorem S.Ssub_sim (a b c d : Int) : Sim prog 15 [.str true ⟨#[45]⟩, .agg [.int true .i64 a, .int true .i64 b], .agg [.int true .i64 c, .int true .i64 d]] [] (.agg [.int true .i64 (S.Ssub_0 a b c d), .int true .i64 (S.Ssub_1 a b c d)]) [] := by
 refine Sim.args (args' := [.str false ⟨#[45]⟩, .agg [.int true .i64 a, .int true .i64 b], .agg [.int true .i64 c, .int true .i64 d]]) ?_ (.cons (Says.str rfl) (.cons (Says.refl _) (.cons (Says.refl _) (.nil))))
 rcases Bool.eq_false_or_eq_true (S.Empty a b) with h0 | h0
 ·
  exact (sim_run (S.hE S.o_Sadd_ok) (show run _ 15 [.str false ⟨#[45]⟩, .agg [.int true .i64 a, .int true .i64 b], .agg [.int true .i64 c, .int true .i64 d]] [] [.br true] = some (True ∧ S.Empty a b = true, .agg [.int false .i64 1, .int false .i64 0], []) by kernel_rfl) ⟨trivial, h0⟩).says (Says.agg (.cons (Says.int (by simp only [S.Ssub_0, h0, cond_true, cond_false])) (.cons (Says.int (by simp only [S.Ssub_1, h0, cond_true, cond_false])) (.nil))))
 ·
  rcases Bool.eq_false_or_eq_true (S.Empty c d) with h1 | h1
  ·
   exact (sim_run (S.hE S.o_Sadd_ok) (show run _ 15 [.str false ⟨#[45]⟩, .agg [.int true .i64 a, .int true .i64 b], .agg [.int true .i64 c, .int true .i64 d]] [] [.br false, .br true] = some ((True ∧ S.Empty a b = false) ∧ S.Empty c d = true, .agg [.int false .i64 1, .int false .i64 0], []) by kernel_rfl) ⟨⟨trivial, h0⟩, h1⟩).says (Says.agg (.cons (Says.int (by simp only [S.Ssub_0, h1, h0, cond_true, cond_false])) (.cons (Says.int (by simp only [S.Ssub_1, h1, h0, cond_true, cond_false])) (.nil))))
  ·
   rcases Bool.eq_false_or_eq_true (S.One_1 a b) with h2 | h2
   ·
    rcases Bool.eq_false_or_eq_true (S.One_1 c d) with h3 | h3
    ·
     rcases Bool.eq_false_or_eq_true (S.Bsub_1 (S.One_0 a b) (S.One_0 c d) != 0) with h4 | h4
     ·
      exact (sim_run (S.hE S.o_Sadd_ok) (show run _ 15 [.str false ⟨#[45]⟩, .agg [.int true .i64 a, .int true .i64 b], .agg [.int true .i64 c, .int true .i64 d]] [] [.br false, .br false, .br true, .br true, .br true] = some (((((True ∧ S.Empty a b = false) ∧ S.Empty c d = false) ∧ S.One_1 a b = true) ∧ S.One_1 c d = true) ∧ (S.Bsub_1 (S.One_0 a b) (S.One_0 c d) != 0) = true, .agg [.int false .i64 1, .int false .i64 0], []) by kernel_rfl) ⟨⟨⟨⟨⟨trivial, h0⟩, h1⟩, h2⟩, h3⟩, h4⟩).says (Says.agg (.cons (Says.int (by simp only [S.Ssub_0, h4, h3, h2, h1, h0, cond_true, cond_false])) (.cons (Says.int (by simp only [S.Ssub_1, h4, h3, h2, h1, h0, cond_true, cond_false])) (.nil))))
     ·
      exact (sim_run (S.hE S.o_Sadd_ok) (show run _ 15 [.str false ⟨#[45]⟩, .agg [.int true .i64 a, .int true .i64 b], .agg [.int true .i64 c, .int true .i64 d]] [] [.br false, .br false, .br true, .br true, .br false] = some (((((True ∧ S.Empty a b = false) ∧ S.Empty c d = false) ∧ S.One_1 a b = true) ∧ S.One_1 c d = true) ∧ (S.Bsub_1 (S.One_0 a b) (S.One_0 c d) != 0) = false, .agg [.int true .i64 (S.Of_0 (S.Bsub_0 (S.One_0 a b) (S.One_0 c d))), .int true .i64 (S.Of_1 (S.Bsub_0 (S.One_0 a b) (S.One_0 c d)))], []) by kernel_rfl) ⟨⟨⟨⟨⟨trivial, h0⟩, h1⟩, h2⟩, h3⟩, h4⟩).says (Says.agg (.cons (Says.int (by simp only [S.Ssub_0, h4, h3, h2, h1, h0, cond_true, cond_false])) (.cons (Says.int (by simp only [S.Ssub_1, h4, h3, h2, h1, h0, cond_true, cond_false])) (.nil))))
    ·
     exact (sim_run (S.hE S.o_Sadd_ok) (show run _ 15 [.str false ⟨#[45]⟩, .agg [.int true .i64 a, .int true .i64 b], .agg [.int true .i64 c, .int true .i64 d]] [] [.br false, .br false, .br true, .br false] = some ((((True ∧ S.Empty a b = false) ∧ S.Empty c d = false) ∧ S.One_1 a b = true) ∧ S.One_1 c d = false, .agg [.int true .i64 (S.esub_0 a b c d), .int true .i64 (S.esub_1 a b c d)], []) by kernel_rfl) ⟨⟨⟨⟨trivial, h0⟩, h1⟩, h2⟩, h3⟩).says (Says.agg (.cons (Says.int (by simp only [S.Ssub_0, h3, h2, h1, h0, cond_true, cond_false])) (.cons (Says.int (by simp only [S.Ssub_1, h3, h2, h1, h0, cond_true, cond_false])) (.nil))))
   ·
    exact (sim_run (S.hE S.o_Sadd_ok) (show run _ 15 [.str false ⟨#[45]⟩, .agg [.int true .i64 a, .int true .i64 b], .agg [.int true .i64 c, .int true .i64 d]] [] [.br false, .br false, .br false] = some (((True ∧ S.Empty a b = false) ∧ S.Empty c d = false) ∧ S.One_1 a b = false, .agg [.int true .i64 (S.esub_0 a b c d), .int true .i64 (S.esub_1 a b c d)], []) by kernel_rfl) ⟨⟨⟨trivial, h0⟩, h1⟩, h2⟩).says (Says.agg (.cons (Says.int (by simp only [S.Ssub_0, h2, h1, h0, cond_true, cond_false])) (.cons (Says.int (by simp only [S.Ssub_1, h2, h1, h0, cond_true, cond_false])) (.nil))))
def S.o_Ssub : Orc := orcAdd 15 (fun | [.str true t0, .agg [.int true .i64 a, .int true .i64 b], .agg [.int true .i64 c, .int true .i64 d]] => (match t0.data.toList == [45] with | true => some (.agg [.int true .i64 (S.Ssub_0 a b c d), .int true .i64 (S.Ssub_1 a b c d)]) | false => none) | _ => none) S.o_Sadd
theorem S.o_Ssub_ok : OrcOk prog S.o_Ssub := orcAdd_ok S.o_Sadd_ok fun a v h => by
  try dsimp only at h
  split at h
  · rename_i t0 a b c d
    split at h
    · rename_i ht; cases h; have ht0 := ht; obtain rfl := ba_eq ht0; exact S.Ssub_sim a b c d
    · cases h
  · cases h
def S.Smul_0 (a b c d : Int) : Int := (bif S.Empty a b then (1) else (bif S.Empty c d then (1) else (bif S.One_1 a b then (bif S.One_1 c d then (bif S.Bmul_1 (S.One_0 a b) (S.One_0 c d) != 0 then (1) else (S.Of_0 (S.Bmul_0 (S.One_0 a b) (S.One_0 c d)))) else (S.emul_0 a b c d)) else (S.emul_0 a b c d))))
def S.Smul_1 (a b c d : Int) : Int := (bif S.Empty a b then (0) else (bif S.Empty c d then (0) else (bif S.One_1 a b then (bif S.One_1 c d then (bif S.Bmul_1 (S.One_0 a b) (S.One_0 c d) != 0 then (0) else (S.Of_1 (S.Bmul_0 (S.One_0 a b) (S.One_0 c d)))) else (S.emul_1 a b c d)) else (S.emul_1 a b c d))))
theorem S.Smul_sim (a b c d : Int) : Sim prog 15 [.str true ⟨#[42]⟩, .agg [.int true .i64 a, .int true .i64 b], .agg [.int true .i64 c, .int true .i64 d]] [] (.agg [.int true .i64 (S.Smul_0 a b c d), .int true .i64 (S.Smul_1 a b c d)]) [] := by
 refine Sim.args (args' := [.str false ⟨#[42]⟩, .agg [.int true .i64 a, .int true .i64 b], .agg [.int true .i64 c, .int true .i64 d]]) ?_ (.cons (Says.str rfl) (.cons (Says.refl _) (.cons (Says.refl _) (.nil))))
 rcases Bool.eq_false_or_eq_true (S.Empty a b) with h0 | h0
 ·
  exact (sim_run (S.hE S.o_Ssub_ok) (show run _ 15 [.str false ⟨#[42]⟩, .agg [.int true .i64 a, .int true .i64 b], .agg [.int true .i64 c, .int true .i64 d]] [] [.br true] = some (True ∧ S.Empty a b = true, .agg [.int false .i64 1, .int false .i64 0], []) by kernel_rfl) ⟨trivial, h0⟩).says (Says.agg (.cons (Says.int (by simp only [S.Smul_0, h0, cond_true, cond_false])) (.cons (Says.int (by simp only [S.Smul_1, h0, cond_true, cond_false])) (.nil))))
 ·
  rcases Bool.eq_false_or_eq_true (S.Empty c d) with h1 | h1
  ·
   exact (sim_run (S.hE S.o_Ssub_ok) (show run _ 15 [.str false ⟨#[42]⟩, .agg [.int true .i64 a, .int true .i64 b], .agg [.int true .i64 c, .int true .i64 d]] [] [.br false, .br true] = some ((True ∧ S.Empty a b = false) ∧ S.Empty c d = true, .agg [.int false .i64 1, .int false .i64 0], []) by kernel_rfl) ⟨⟨trivial, h0⟩, h1⟩).says (Says.agg (.cons (Says.int (by simp only [S.Smul_0, h1, h0, cond_true, cond_false])) (.cons (Says.int (by simp only [S.Smul_1, h1, h0, cond_true, cond_false])) (.nil))))
  ·
   rcases Bool.eq_false_or_eq_true (S.One_1 a b) with h2 | h2
   ·
    rcases Bool.eq_false_or_eq_true (S.One_1 c d) with h3 | h3
    ·
     rcases Bool.eq_false_or_eq_true (S.Bmul_1 (S.One_0 a b) (S.One_0 c d) != 0) with h4 | h4
     ·
      exact (sim_run (S.hE S.o_Ssub_ok) (show run _ 15 [.str false ⟨#[42]⟩, .agg [.int true .i64 a, .int true .i64 b], .agg [.int true .i64 c, .int true .i64 d]] [] [.br false, .br false, .br true, .br true, .br true] = some (((((True ∧ S.Empty a b = false) ∧ S.Empty c d = false) ∧ S.One_1 a b = true) ∧ S.One_1 c d = true) ∧ (S.Bmul_1 (S.One_0 a b) (S.One_0 c d) != 0) = true, .agg [.int false .i64 1, .int false .i64 0], []) by kernel_rfl) ⟨⟨⟨⟨⟨trivial, h0⟩, h1⟩, h2⟩, h3⟩, h4⟩).says (Says.agg (.cons (Says.int (by simp only [S.Smul_0, h4, h3, h2, h1, h0, cond_true, cond_false])) (.cons (Says.int (by simp only [S.Smul_1, h4, h3, h2, h1, h0, cond_true, cond_false])) (.nil))))
     ·
      exact (sim_run (S.hE S.o_Ssub_ok) (show run _ 15 [.str false ⟨#[42]⟩, .agg [.int true .i64 a, .int true .i64 b], .agg [.int true .i64 c, .int true .i64 d]] [] [.br false, .br false, .br true, .br true, .br false] = some (((((True ∧ S.Empty a b = false) ∧ S.Empty c d = false) ∧ S.One_1 a b = true) ∧ S.One_1 c d = true) ∧ (S.Bmul_1 (S.One_0 a b) (S.One_0 c d) != 0) = false, .agg [.int true .i64 (S.Of_0 (S.Bmul_0 (S.One_0 a b) (S.One_0 c d))), .int true .i64 (S.Of_1 (S.Bmul_0 (S.One_0 a b) (S.One_0 c d)))], []) by kernel_rfl) ⟨⟨⟨⟨⟨trivial, h0⟩, h1⟩, h2⟩, h3⟩, h4⟩).says (Says.agg (.cons (Says.int (by simp only [S.Smul_0, h4, h3, h2, h1, h0, cond_true, cond_false])) (.cons (Says.int (by simp only [S.Smul_1, h4, h3, h2, h1, h0, cond_true, cond_false])) (.nil))))
    ·
     exact (sim_run (S.hE S.o_Ssub_ok) (show run _ 15 [.str false ⟨#[42]⟩, .agg [.int true .i64 a, .int true .i64 b], .agg [.int true .i64 c, .int true .i64 d]] [] [.br false, .br false, .br true, .br false] = some ((((True ∧ S.Empty a b = false) ∧ S.Empty c d = false) ∧ S.One_1 a b = true) ∧ S.One_1 c d = false, .agg [.int true .i64 (S.emul_0 a b c d), .int true .i64 (S.emul_1 a b c d)], []) by kernel_rfl) ⟨⟨⟨⟨trivial, h0⟩, h1⟩, h2⟩, h3⟩).says (Says.agg (.cons (Says.int (by simp only [S.Smul_0, h3, h2, h1, h0, cond_true, cond_false])) (.cons (Says.int (by simp only [S.Smul_1, h3, h2, h1, h0, cond_true, cond_false])) (.nil))))
   ·
    exact (sim_run (S.hE S.o_Ssub_ok) (show run _ 15 [.str false ⟨#[42]⟩, .agg [.int true .i64 a, .int true .i64 b], .agg [.int true .i64 c, .int true .i64 d]] [] [.br false, .br false, .br false] = some (((True ∧ S.Empty a b = false) ∧ S.Empty c d = false) ∧ S.One_1 a b = false, .agg [.int true .i64 (S.emul_0 a b c d), .int true .i64 (S.emul_1 a b c d)], []) by kernel_rfl) ⟨⟨⟨trivial, h0⟩, h1⟩, h2⟩).says (Says.agg (.cons (Says.int (by simp only [S.Smul_0, h2, h1, h0, cond_true, cond_false])) (.cons (Says.int (by simp only [S.Smul_1, h2, h1, h0, cond_true, cond_false])) (.nil))))
def S.o_Smul : Orc := orcAdd 15 (fun | [.str true t0, .agg [.int true .i64 a, .int true .i64 b], .agg [.int true .i64 c, .int true .i64 d]] => (match t0.data.toList == [42] with | true => some (.agg [.int true .i64 (S.Smul_0 a b c d), .int true .i64 (S.Smul_1 a b c d)]) | false => none) | _ => none) S.o_Ssub
theorem S.o_Smul_ok : OrcOk prog S.o_Smul := orcAdd_ok S.o_Ssub_ok fun a v h => by
  try dsimp only at h
  split at h
  · rename_i t0 a b c d
    split at h
    · rename_i ht; cases h; have ht0 := ht; obtain rfl := ba_eq ht0; exact S.Smul_sim a b c d
    · cases h
  · cases h
def S.Srem_0 (a b c d : Int) : Int := (bif S.Empty a b then (1) else (bif S.Empty c d then (1) else (bif S.One_1 a b then (bif S.One_1 c d then (bif S.Bquo_1 (S.One_0 a b) (S.One_0 c d) != 0 then (1) else (S.Of_0 (S.Brem_0 (S.One_0 a b) (S.One_0 c d)))) else (S.rest_0 a b c d)) else (S.rest_0 a b c d))))
def S.Srem_1 (a b c d : Int) : Int := (bif S.Empty a b then (0) else (bif S.Empty c d then (0) else (bif S.One_1 a b then (bif S.One_1 c d then (bif S.Bquo_1 (S.One_0 a b) (S.One_0 c d) != 0 then (0) else (S.Of_1 (S.Brem_0 (S.One_0 a b) (S.One_0 c d)))) else (S.rest_1 a b c d)) else (S.rest_1 a b c d))))
theorem S.Srem_sim (a b c d : Int) : Sim prog 15 [.str true ⟨#[37]⟩, .agg [.int true .i64 a, .int true .i64 b], .agg [.int true .i64 c, .int true .i64 d]] [] (.agg [.int true .i64 (S.Srem_0 a b c d), .int true .i64 (S.Srem_1 a b c d)]) [] := by
 refine Sim.args (args' := [.str false ⟨#[37]⟩, .agg [.int true .i64 a, .int true .i64 b], .agg [.int true .i64 c, .int true .i64 d]]) ?_ (.cons (Says.str rfl) (.cons (Says.refl _) (.cons (Says.refl _) (.nil))))
 rcases Bool.eq_false_or_eq_true (S.Empty a b) with h0 | h0
 ·
  exact (sim_run (S.hE S.o_Smul_ok) (show run _ 15 [.str false ⟨#[37]⟩, .agg [.int true .i64 a, .int true .i64 b], .agg [.int true .i64 c, .int true .i64 d]] [] [.br true] = some (True ∧ S.Empty a b = true, .agg [.int false .i64 1, .int false .i64 0], []) by kernel_rfl) ⟨trivial, h0⟩).says (Says.agg (.cons (Says.int (by simp only [S.Srem_0, h0, cond_true, cond_false])) (.cons (Says.int (by simp only [S.Srem_1, h0, cond_true, cond_false])) (.nil))))
 ·
  rcases Bool.eq_false_or_eq_true (S.Empty c d) with h1 | h1
  ·
   exact (sim_run (S.hE S.o_Smul_ok) (show run _ 15 [.str false ⟨#[37]⟩, .agg [.int true .i64 a, .int true .i64 b], .agg [.int true .i64 c, .int true .i64 d]] [] [.br false, .br true] = some ((True ∧ S.Empty a b = false) ∧ S.Empty c d = true, .agg [.int false .i64 1, .int false .i64 0], []) by kernel_rfl) ⟨⟨trivial, h0⟩, h1⟩).says (Says.agg (.cons (Says.int (by simp only [S.Srem_0, h1, h0, cond_true, cond_false])) (.cons (Says.int (by simp only [S.Srem_1, h1, h0, cond_true, cond_false])) (.nil))))
  ·
   rcases Bool.eq_false_or_eq_true (S.One_1 a b) with h2 | h2
   ·
    rcases Bool.eq_false_or_eq_true (S.One_1 c d) with h3 | h3
    ·
     rcases Bool.eq_false_or_eq_true (S.Bquo_1 (S.One_0 a b) (S.One_0 c d) != 0) with h4 | h4
     ·
      exact (sim_run (S.hE S.o_Smul_ok) (show run _ 15 [.str false ⟨#[37]⟩, .agg [.int true .i64 a, .int true .i64 b], .agg [.int true .i64 c, .int true .i64 d]] [] [.br false, .br false, .br true, .br true, .br true] = some (((((True ∧ S.Empty a b = false) ∧ S.Empty c d = false) ∧ S.One_1 a b = true) ∧ S.One_1 c d = true) ∧ (S.Bquo_1 (S.One_0 a b) (S.One_0 c d) != 0) = true, .agg [.int false .i64 1, .int false .i64 0], []) by kernel_rfl) ⟨⟨⟨⟨⟨trivial, h0⟩, h1⟩, h2⟩, h3⟩, h4⟩).says (Says.agg (.cons (Says.int (by simp only [S.Srem_0, h4, h3, h2, h1, h0, cond_true, cond_false])) (.cons (Says.int (by simp only [S.Srem_1, h4, h3, h2, h1, h0, cond_true, cond_false])) (.nil))))
     ·
      exact (sim_run (S.hE S.o_Smul_ok) (show run _ 15 [.str false ⟨#[37]⟩, .agg [.int true .i64 a, .int true .i64 b], .agg [.int true .i64 c, .int true .i64 d]] [] [.br false, .br false, .br true, .br true, .br false] = some (((((True ∧ S.Empty a b = false) ∧ S.Empty c d = false) ∧ S.One_1 a b = true) ∧ S.One_1 c d = true) ∧ (S.Bquo_1 (S.One_0 a b) (S.One_0 c d) != 0) = false, .agg [.int true .i64 (S.Of_0 (S.Brem_0 (S.One_0 a b) (S.One_0 c d))), .int true .i64 (S.Of_1 (S.Brem_0 (S.One_0 a b) (S.One_0 c d)))], []) by kernel_rfl) ⟨⟨⟨⟨⟨trivial, h0⟩, h1⟩, h2⟩, h3⟩, h4⟩).says (Says.agg (.cons (Says.int (by simp only [S.Srem_0, h4, h3, h2, h1, h0, cond_true, cond_false])) (.cons (Says.int (by simp only [S.Srem_1, h4, h3, h2, h1, h0, cond_true, cond_false])) (.nil))))
    ·
     exact (sim_run (S.hE S.o_Smul_ok) (show run _ 15 [.str false ⟨#[37]⟩, .agg [.int true .i64 a, .int true .i64 b], .agg [.int true .i64 c, .int true .i64 d]] [] [.br false, .br false, .br true, .br false] = some ((((True ∧ S.Empty a b = false) ∧ S.Empty c d = false) ∧ S.One_1 a b = true) ∧ S.One_1 c d = false, .agg [.int true .i64 (S.rest_0 a b c d), .int true .i64 (S.rest_1 a b c d)], []) by kernel_rfl) ⟨⟨⟨⟨trivial, h0⟩, h1⟩, h2⟩, h3⟩).says (Says.agg (.cons (Says.int (by simp only [S.Srem_0, h3, h2, h1, h0, cond_true, cond_false])) (.cons (Says.int (by simp only [S.Srem_1, h3, h2, h1, h0, cond_true, cond_false])) (.nil))))
   ·
    exact (sim_run (S.hE S.o_Smul_ok) (show run _ 15 [.str false ⟨#[37]⟩, .agg [.int true .i64 a, .int true .i64 b], .agg [.int true .i64 c, .int true .i64 d]] [] [.br false, .br false, .br false] = some (((True ∧ S.Empty a b = false) ∧ S.Empty c d = false) ∧ S.One_1 a b = false, .agg [.int true .i64 (S.rest_0 a b c d), .int true .i64 (S.rest_1 a b c d)], []) by kernel_rfl) ⟨⟨⟨trivial, h0⟩, h1⟩, h2⟩).says (Says.agg (.cons (Says.int (by simp only [S.Srem_0, h2, h1, h0, cond_true, cond_false])) (.cons (Says.int (by simp only [S.Srem_1, h2, h1, h0, cond_true, cond_false])) (.nil))))
def S.o_Srem : Orc := orcAdd 15 (fun | [.str true t0, .agg [.int true .i64 a, .int true .i64 b], .agg [.int true .i64 c, .int true .i64 d]] => (match t0.data.toList == [37] with | true => some (.agg [.int true .i64 (S.Srem_0 a b c d), .int true .i64 (S.Srem_1 a b c d)]) | false => none) | _ => none) S.o_Smul
theorem S.o_Srem_ok : OrcOk prog S.o_Srem := orcAdd_ok S.o_Smul_ok fun a v h => by
  try dsimp only at h
  split at h
  · rename_i t0 a b c d
    split at h
    · rename_i ht; cases h; have ht0 := ht; obtain rfl := ba_eq ht0; exact S.Srem_sim a b c d
    · cases h
  · cases h
def S.Squest_0 (a b c d : Int) : Int := (1)
def S.Squest_1 (a b c d : Int) : Int := (0)
theorem S.Squest_sim (a b c d : Int) : Sim prog 15 [.str true ⟨#[63]⟩, .agg [.int true .i64 a, .int true .i64 b], .agg [.int true .i64 c, .int true .i64 d]] [] (.agg [.int true .i64 (S.Squest_0 a b c d), .int true .i64 (S.Squest_1 a b c d)]) [] := by
 refine Sim.args (args' := [.str false ⟨#[63]⟩, .agg [.int true .i64 a, .int true .i64 b], .agg [.int true .i64 c, .int true .i64 d]]) ?_ (.cons (Says.str rfl) (.cons (Says.refl _) (.cons (Says.refl _) (.nil))))
 rcases Bool.eq_false_or_eq_true (S.Empty a b) with h0 | h0
 ·
  exact (sim_run (S.hE S.o_Srem_ok) (show run _ 15 [.str false ⟨#[63]⟩, .agg [.int true .i64 a, .int true .i64 b], .agg [.int true .i64 c, .int true .i64 d]] [] [.br true] = some (True ∧ S.Empty a b = true, .agg [.int false .i64 1, .int false .i64 0], []) by kernel_rfl) ⟨trivial, h0⟩).says (Says.agg (.cons (Says.int (by simp only [S.Squest_0, h0, cond_true, cond_false])) (.cons (Says.int (by simp only [S.Squest_1, h0, cond_true, cond_false])) (.nil))))
 ·
  rcases Bool.eq_false_or_eq_true (S.Empty c d) with h1 | h1
  ·
   exact (sim_run (S.hE S.o_Srem_ok) (show run _ 15 [.str false ⟨#[63]⟩, .agg [.int true .i64 a, .int true .i64 b], .agg [.int true .i64 c, .int true .i64 d]] [] [.br false, .br true] = some ((True ∧ S.Empty a b = false) ∧ S.Empty c d = true, .agg [.int false .i64 1, .int false .i64 0], []) by kernel_rfl) ⟨⟨trivial, h0⟩, h1⟩).says (Says.agg (.cons (Says.int (by simp only [S.Squest_0, h1, h0, cond_true, cond_false])) (.cons (Says.int (by simp only [S.Squest_1, h1, h0, cond_true, cond_false])) (.nil))))
  ·
   exact (sim_run (S.hE S.o_Srem_ok) (show run _ 15 [.str false ⟨#[63]⟩, .agg [.int true .i64 a, .int true .i64 b], .agg [.int true .i64 c, .int true .i64 d]] [] [.br false, .br false] = some ((True ∧ S.Empty a b = false) ∧ S.Empty c d = false, .agg [.int false .i64 1, .int false .i64 0], []) by kernel_rfl) ⟨⟨trivial, h0⟩, h1⟩).says (Says.agg (.cons (Says.int (by simp only [S.Squest_0, h1, h0, cond_true, cond_false])) (.cons (Says.int (by simp only [S.Squest_1, h1, h0, cond_true, cond_false])) (.nil))))
def S.o_Squest : Orc := orcAdd 15 (fun | [.str true t0, .agg [.int true .i64 a, .int true .i64 b], .agg [.int true .i64 c, .int true .i64 d]] => (match t0.data.toList == [63] with | true => some (.agg [.int true .i64 (S.Squest_0 a b c d), .int true .i64 (S.Squest_1 a b c d)]) | false => none) | _ => none) S.o_Srem
theorem S.o_Squest_ok : OrcOk prog S.o_Squest := orcAdd_ok S.o_Srem_ok fun a v h => by
  try dsimp only at h
  split at h
  · rename_i t0 a b c d
    split at h
    · rename_i ht; cases h; have ht0 := ht; obtain rfl := ba_eq ht0; exact S.Squest_sim a b c d
    · cases h
  · cases h
