import Derived.Test.YtobomgckeoomkaaSpZ
set_option linter.unusedVariables false
set_option linter.unusedSimpArgs false
set_option maxRecDepth 100000
open Go Go.Im Go.Proofs.Try
def S.wbit (a : Bool) : Int := (bif a then (1) else (0))
theorem S.wbit_sim (a : Bool) : Sim prog 85 [.bool true a] [] (.int true .i64 (S.wbit a)) [] := by
 rcases Bool.eq_false_or_eq_true (a) with h0 | h0
 ·
  exact (sim_run (S.hE S.o_ex_ok) (show run _ 85 [.bool true a] [] [.br true] = some (True ∧ a = true, .int false .i64 1, []) by kernel_rfl) ⟨trivial, h0⟩).says (Says.int (by simp only [S.wbit, h0, cond_true, cond_false]))
 ·
  exact (sim_run (S.hE S.o_ex_ok) (show run _ 85 [.bool true a] [] [.br false] = some (True ∧ a = false, .int false .i64 0, []) by kernel_rfl) ⟨trivial, h0⟩).says (Says.int (by simp only [S.wbit, h0, cond_true, cond_false]))
def S.o_wbit : Orc := orcAdd 85 (fun | [.bool true a] => some (.int true .i64 (S.wbit a)) | _ => none) S.o_ex
theorem S.o_wbit_ok : OrcOk prog S.o_wbit := orcAdd_ok S.o_ex_ok fun a v h => by
  try dsimp only at h
  split at h
  · rename_i a; cases h; exact S.wbit_sim a
  · cases h
def S.wone (a b : Int) : Int := (bif a != 0 then (1) else (S.wbit (b != 0)))
theorem S.wone_sim (a b : Int) : Sim prog 86 [.int true .i64 a, .int true .i64 b] [] (.int true .i64 (S.wone a b)) [] := by
 rcases Bool.eq_false_or_eq_true (a != 0) with h0 | h0
 ·
  exact (sim_run (S.hE S.o_wbit_ok) (show run _ 86 [.int true .i64 a, .int true .i64 b] [] [.br true] = some (True ∧ (a != 0) = true, .int false .i64 1, []) by kernel_rfl) ⟨trivial, h0⟩).says (Says.int (by simp only [S.wone, h0, cond_true, cond_false]))
 ·
  exact (sim_run (S.hE S.o_wbit_ok) (show run _ 86 [.int true .i64 a, .int true .i64 b] [] [.br false] = some (True ∧ (a != 0) = false, .int true .i64 (S.wbit (b != 0)), []) by kernel_rfl) ⟨trivial, h0⟩).says (Says.int (by simp only [S.wone, h0, cond_true, cond_false]))
def S.o_wone : Orc := orcAdd 86 (fun | [.int true .i64 a, .int true .i64 b] => some (.int true .i64 (S.wone a b)) | _ => none) S.o_wbit
theorem S.o_wone_ok : OrcOk prog S.o_wone := orcAdd_ok S.o_wbit_ok fun a v h => by
  try dsimp only at h
  split at h
  · rename_i a b; cases h; exact S.wone_sim a b
  · cases h
def S.wboth (a b : Int) : Int := (bif a != 0 then (S.wbit (b != 0)) else (0))
theorem S.wboth_sim (a b : Int) : Sim prog 87 [.int true .i64 a, .int true .i64 b] [] (.int true .i64 (S.wboth a b)) [] := by
 rcases Bool.eq_false_or_eq_true (a != 0) with h0 | h0
 ·
  exact (sim_run (S.hE S.o_wone_ok) (show run _ 87 [.int true .i64 a, .int true .i64 b] [] [.br true] = some (True ∧ (a != 0) = true, .int true .i64 (S.wbit (b != 0)), []) by kernel_rfl) ⟨trivial, h0⟩).says (Says.int (by simp only [S.wboth, h0, cond_true, cond_false]))
 ·
  exact (sim_run (S.hE S.o_wone_ok) (show run _ 87 [.int true .i64 a, .int true .i64 b] [] [.br false] = some (True ∧ (a != 0) = false, .int false .i64 0, []) by kernel_rfl) ⟨trivial, h0⟩).says (Says.int (by simp only [S.wboth, h0, cond_true, cond_false]))
def S.o_wboth : Orc := orcAdd 87 (fun | [.int true .i64 a, .int true .i64 b] => some (.int true .i64 (S.wboth a b)) | _ => none) S.o_wone
theorem S.o_wboth_ok : OrcOk prog S.o_wboth := orcAdd_ok S.o_wone_ok fun a v h => by
  try dsimp only at h
  split at h
  · rename_i a b; cases h; exact S.wboth_sim a b
  · cases h
def S.wor (a b : Int) : Int := (IntKind.wrap .i64 ↑(BitVec.toNat (BitVec.ofInt (IntKind.bits .i64) a ||| BitVec.ofInt (IntKind.bits .i64) b)))
theorem S.wor_sim (a b : Int) : Sim prog 88 [.int true .i64 a, .int true .i64 b] [] (.int true .i64 (S.wor a b)) [] := by
 exact (sim_run (S.hE S.o_wboth_ok) (show run _ 88 [.int true .i64 a, .int true .i64 b] [] [] = some (True, .int true .i64 (IntKind.wrap .i64 ↑(BitVec.toNat (BitVec.ofInt (IntKind.bits .i64) a ||| BitVec.ofInt (IntKind.bits .i64) b))), []) by kernel_rfl) trivial).says (Says.int (rfl))
def S.o_wor : Orc := orcAdd 88 (fun | [.int true .i64 a, .int true .i64 b] => some (.int true .i64 (S.wor a b)) | _ => none) S.o_wboth
theorem S.o_wor_ok : OrcOk prog S.o_wor := orcAdd_ok S.o_wboth_ok fun a v h => by
  try dsimp only at h
  split at h
  · rename_i a b; cases h; exact S.wor_sim a b
  · cases h
def S.wxor (a b : Int) : Int := (IntKind.wrap .i64 ↑(BitVec.toNat (BitVec.ofInt (IntKind.bits .i64) a ^^^ BitVec.ofInt (IntKind.bits .i64) b)))
theorem S.wxor_sim (a b : Int) : Sim prog 89 [.int true .i64 a, .int true .i64 b] [] (.int true .i64 (S.wxor a b)) [] := by
 exact (sim_run (S.hE S.o_wor_ok) (show run _ 89 [.int true .i64 a, .int true .i64 b] [] [] = some (True, .int true .i64 (IntKind.wrap .i64 ↑(BitVec.toNat (BitVec.ofInt (IntKind.bits .i64) a ^^^ BitVec.ofInt (IntKind.bits .i64) b))), []) by kernel_rfl) trivial).says (Says.int (rfl))
def S.o_wxor : Orc := orcAdd 89 (fun | [.int true .i64 a, .int true .i64 b] => some (.int true .i64 (S.wxor a b)) | _ => none) S.o_wor
theorem S.o_wxor_ok : OrcOk prog S.o_wxor := orcAdd_ok S.o_wor_ok fun a v h => by
  try dsimp only at h
  split at h
  · rename_i a b; cases h; exact S.wxor_sim a b
  · cases h
def S.wand (a b : Int) : Int := (IntKind.wrap .i64 ↑(BitVec.toNat (BitVec.ofInt (IntKind.bits .i64) a &&& BitVec.ofInt (IntKind.bits .i64) b)))
theorem S.wand_sim (a b : Int) : Sim prog 90 [.int true .i64 a, .int true .i64 b] [] (.int true .i64 (S.wand a b)) [] := by
 exact (sim_run (S.hE S.o_wxor_ok) (show run _ 90 [.int true .i64 a, .int true .i64 b] [] [] = some (True, .int true .i64 (IntKind.wrap .i64 ↑(BitVec.toNat (BitVec.ofInt (IntKind.bits .i64) a &&& BitVec.ofInt (IntKind.bits .i64) b))), []) by kernel_rfl) trivial).says (Says.int (rfl))
def S.o_wand : Orc := orcAdd 90 (fun | [.int true .i64 a, .int true .i64 b] => some (.int true .i64 (S.wand a b)) | _ => none) S.o_wxor
theorem S.o_wand_ok : OrcOk prog S.o_wand := orcAdd_ok S.o_wxor_ok fun a v h => by
  try dsimp only at h
  split at h
  · rename_i a b; cases h; exact S.wand_sim a b
  · cases h
def S.weq (a b : Int) : Int := (S.wbit (a == b))
theorem S.weq_sim (a b : Int) : Sim prog 75 [.int true .i64 a, .int true .i64 b] [] (.int true .i64 (S.weq a b)) [] := by
 exact (sim_run (S.hE S.o_wand_ok) (show run _ 75 [.int true .i64 a, .int true .i64 b] [] [] = some (True, .int true .i64 (S.wbit (a == b)), []) by kernel_rfl) trivial).says (Says.int (rfl))
def S.o_weq : Orc := orcAdd 75 (fun | [.int true .i64 a, .int true .i64 b] => some (.int true .i64 (S.weq a b)) | _ => none) S.o_wand
theorem S.o_weq_ok : OrcOk prog S.o_weq := orcAdd_ok S.o_wand_ok fun a v h => by
  try dsimp only at h
  split at h
  · rename_i a b; cases h; exact S.weq_sim a b
  · cases h
def S.wne (a b : Int) : Int := (S.wbit (a != b))
theorem S.wne_sim (a b : Int) : Sim prog 91 [.int true .i64 a, .int true .i64 b] [] (.int true .i64 (S.wne a b)) [] := by
 exact (sim_run (S.hE S.o_weq_ok) (show run _ 91 [.int true .i64 a, .int true .i64 b] [] [] = some (True, .int true .i64 (S.wbit (a != b)), []) by kernel_rfl) trivial).says (Says.int (rfl))
def S.o_wne : Orc := orcAdd 91 (fun | [.int true .i64 a, .int true .i64 b] => some (.int true .i64 (S.wne a b)) | _ => none) S.o_weq
theorem S.o_wne_ok : OrcOk prog S.o_wne := orcAdd_ok S.o_weq_ok fun a v h => by
  try dsimp only at h
  split at h
  · rename_i a b; cases h; exact S.wne_sim a b
  · cases h
def S.wlt (a b : Int) : Int := (S.wbit (decide (a < b)))
theorem S.wlt_sim (a b : Int) : Sim prog 92 [.int true .i64 a, .int true .i64 b] [] (.int true .i64 (S.wlt a b)) [] := by
 exact (sim_run (S.hE S.o_wne_ok) (show run _ 92 [.int true .i64 a, .int true .i64 b] [] [] = some (True, .int true .i64 (S.wbit (decide (a < b))), []) by kernel_rfl) trivial).says (Says.int (rfl))
def S.o_wlt : Orc := orcAdd 92 (fun | [.int true .i64 a, .int true .i64 b] => some (.int true .i64 (S.wlt a b)) | _ => none) S.o_wne
theorem S.o_wlt_ok : OrcOk prog S.o_wlt := orcAdd_ok S.o_wne_ok fun a v h => by
  try dsimp only at h
  split at h
  · rename_i a b; cases h; exact S.wlt_sim a b
  · cases h
def S.wle (a b : Int) : Int := (S.wbit (decide (a ≤ b)))
theorem S.wle_sim (a b : Int) : Sim prog 93 [.int true .i64 a, .int true .i64 b] [] (.int true .i64 (S.wle a b)) [] := by
 exact (sim_run (S.hE S.o_wlt_ok) (show run _ 93 [.int true .i64 a, .int true .i64 b] [] [] = some (True, .int true .i64 (S.wbit (decide (a ≤ b))), []) by kernel_rfl) trivial).says (Says.int (rfl))
def S.o_wle : Orc := orcAdd 93 (fun | [.int true .i64 a, .int true .i64 b] => some (.int true .i64 (S.wle a b)) | _ => none) S.o_wlt
theorem S.o_wle_ok : OrcOk prog S.o_wle := orcAdd_ok S.o_wlt_ok fun a v h => by
  try dsimp only at h
  split at h
  · rename_i a b; cases h; exact S.wle_sim a b
  · cases h
def S.wgt (a b : Int) : Int := (S.wbit (decide (a > b)))
theorem S.wgt_sim (a b : Int) : Sim prog 94 [.int true .i64 a, .int true .i64 b] [] (.int true .i64 (S.wgt a b)) [] := by
 exact (sim_run (S.hE S.o_wle_ok) (show run _ 94 [.int true .i64 a, .int true .i64 b] [] [] = some (True, .int true .i64 (S.wbit (decide (a > b))), []) by kernel_rfl) trivial).says (Says.int (rfl))
def S.o_wgt : Orc := orcAdd 94 (fun | [.int true .i64 a, .int true .i64 b] => some (.int true .i64 (S.wgt a b)) | _ => none) S.o_wle
theorem S.o_wgt_ok : OrcOk prog S.o_wgt := orcAdd_ok S.o_wle_ok fun a v h => by
  try dsimp only at h
  split at h
  · rename_i a b; cases h; exact S.wgt_sim a b
  · cases h
def S.wge (a b : Int) : Int := (S.wbit (decide (a ≥ b)))
theorem S.wge_sim (a b : Int) : Sim prog 95 [.int true .i64 a, .int true .i64 b] [] (.int true .i64 (S.wge a b)) [] := by
 exact (sim_run (S.hE S.o_wgt_ok) (show run _ 95 [.int true .i64 a, .int true .i64 b] [] [] = some (True, .int true .i64 (S.wbit (decide (a ≥ b))), []) by kernel_rfl) trivial).says (Says.int (rfl))
def S.o_wge : Orc := orcAdd 95 (fun | [.int true .i64 a, .int true .i64 b] => some (.int true .i64 (S.wge a b)) | _ => none) S.o_wgt
theorem S.o_wge_ok : OrcOk prog S.o_wge := orcAdd_ok S.o_wgt_ok fun a v h => by
  try dsimp only at h
  split at h
  · rename_i a b; cases h; exact S.wge_sim a b
  · cases h
def S.wleft (a b : Int) : Int := (IntKind.wrap .i64 (a * 2 ^ min (Int.toNat (IntKind.wrap .u64 b)) (IntKind.bits .i64)))
theorem S.wleft_sim (a b : Int) : Sim prog 96 [.int true .i64 a, .int true .i64 b] [] (.int true .i64 (S.wleft a b)) [] := by
 rcases Bool.eq_false_or_eq_true (decide (0 ≤ IntKind.wrap .u64 b)) with h0 | h0
 ·
  exact (sim_run (S.hE S.o_wge_ok) (show run _ 96 [.int true .i64 a, .int true .i64 b] [] [.br true] = some (True ∧ decide (0 ≤ IntKind.wrap .u64 b) = true, .int true .i64 (IntKind.wrap .i64 (a * 2 ^ min (Int.toNat (IntKind.wrap .u64 b)) (IntKind.bits .i64))), []) by kernel_rfl) ⟨trivial, h0⟩).says (Says.int (by simp only [S.wleft, h0, cond_true, cond_false]))
 ·
  exfalso; first | (rw [S.u64_nonneg] at h0; cases h0) | (simp only [bne, Bool.not_false, Bool.not_true] at h0 <;> first | done | cases h0)
def S.o_wleft : Orc := orcAdd 96 (fun | [.int true .i64 a, .int true .i64 b] => some (.int true .i64 (S.wleft a b)) | _ => none) S.o_wge
theorem S.o_wleft_ok : OrcOk prog S.o_wleft := orcAdd_ok S.o_wge_ok fun a v h => by
  try dsimp only at h
  split at h
  · rename_i a b; cases h; exact S.wleft_sim a b
  · cases h
def S.wright (a b : Int) : Int := (Int.fdiv a (2 ^ min (Int.toNat (IntKind.wrap .u64 b)) (IntKind.bits .i64)))
theorem S.wright_sim (a b : Int) : Sim prog 97 [.int true .i64 a, .int true .i64 b] [] (.int true .i64 (S.wright a b)) [] := by
 rcases Bool.eq_false_or_eq_true (decide (0 ≤ IntKind.wrap .u64 b)) with h0 | h0
 ·
  exact (sim_run (S.hE S.o_wleft_ok) (show run _ 97 [.int true .i64 a, .int true .i64 b] [] [.br true] = some (True ∧ decide (0 ≤ IntKind.wrap .u64 b) = true, .int true .i64 (Int.fdiv a (2 ^ min (Int.toNat (IntKind.wrap .u64 b)) (IntKind.bits .i64))), []) by kernel_rfl) ⟨trivial, h0⟩).says (Says.int (by simp only [S.wright, h0, cond_true, cond_false]))
 ·
  exfalso; first | (rw [S.u64_nonneg] at h0; cases h0) | (simp only [bne, Bool.not_false, Bool.not_true] at h0 <;> first | done | cases h0)
def S.o_wright : Orc := orcAdd 97 (fun | [.int true .i64 a, .int true .i64 b] => some (.int true .i64 (S.wright a b)) | _ => none) S.o_wleft
theorem S.o_wright_ok : OrcOk prog S.o_wright := orcAdd_ok S.o_wleft_ok fun a v h => by
  try dsimp only at h
  split at h
  · rename_i a b; cases h; exact S.wright_sim a b
  · cases h
def S.wadd (a b : Int) : Int := (IntKind.wrap .i64 (a + b))
theorem S.wadd_sim (a b : Int) : Sim prog 98 [.int true .i64 a, .int true .i64 b] [] (.int true .i64 (S.wadd a b)) [] := by
 exact (sim_run (S.hE S.o_wright_ok) (show run _ 98 [.int true .i64 a, .int true .i64 b] [] [] = some (True, .int true .i64 (IntKind.wrap .i64 (a + b)), []) by kernel_rfl) trivial).says (Says.int (rfl))
def S.o_wadd : Orc := orcAdd 98 (fun | [.int true .i64 a, .int true .i64 b] => some (.int true .i64 (S.wadd a b)) | _ => none) S.o_wright
theorem S.o_wadd_ok : OrcOk prog S.o_wadd := orcAdd_ok S.o_wright_ok fun a v h => by
  try dsimp only at h
  split at h
  · rename_i a b; cases h; exact S.wadd_sim a b
  · cases h
def S.wsub (a b : Int) : Int := (IntKind.wrap .i64 (a - b))
theorem S.wsub_sim (a b : Int) : Sim prog 99 [.int true .i64 a, .int true .i64 b] [] (.int true .i64 (S.wsub a b)) [] := by
 exact (sim_run (S.hE S.o_wadd_ok) (show run _ 99 [.int true .i64 a, .int true .i64 b] [] [] = some (True, .int true .i64 (IntKind.wrap .i64 (a - b)), []) by kernel_rfl) trivial).says (Says.int (rfl))
def S.o_wsub : Orc := orcAdd 99 (fun | [.int true .i64 a, .int true .i64 b] => some (.int true .i64 (S.wsub a b)) | _ => none) S.o_wadd
theorem S.o_wsub_ok : OrcOk prog S.o_wsub := orcAdd_ok S.o_wadd_ok fun a v h => by
  try dsimp only at h
  split at h
  · rename_i a b; cases h; exact S.wsub_sim a b
  · cases h
def S.wmul (a b : Int) : Int := (IntKind.wrap .i64 (a * b))
theorem S.wmul_sim (a b : Int) : Sim prog 100 [.int true .i64 a, .int true .i64 b] [] (.int true .i64 (S.wmul a b)) [] := by
 exact (sim_run (S.hE S.o_wsub_ok) (show run _ 100 [.int true .i64 a, .int true .i64 b] [] [] = some (True, .int true .i64 (IntKind.wrap .i64 (a * b)), []) by kernel_rfl) trivial).says (Says.int (rfl))
def S.o_wmul : Orc := orcAdd 100 (fun | [.int true .i64 a, .int true .i64 b] => some (.int true .i64 (S.wmul a b)) | _ => none) S.o_wsub
theorem S.o_wmul_ok : OrcOk prog S.o_wmul := orcAdd_ok S.o_wsub_ok fun a v h => by
  try dsimp only at h
  split at h
  · rename_i a b; cases h; exact S.wmul_sim a b
  · cases h
def S.Bone_0 (a b : Int) : Int := (S.wone a b)
def S.Bone_1 (a b : Int) : Int := (0)
theorem S.Bone_sim (a b : Int) : Sim prog 38 [.str true ⟨#[124, 124]⟩, .int true .i64 a, .int true .i64 b] [] (.tup [.int true .i64 (S.Bone_0 a b), .int true .i64 (S.Bone_1 a b)]) [] := by
 refine Sim.args (args' := [.str false ⟨#[124, 124]⟩, .int true .i64 a, .int true .i64 b]) ?_ (.cons (Says.str rfl) (.cons (Says.refl _) (.cons (Says.refl _) (.nil))))
 exact (sim_run (S.hE S.o_wmul_ok) (show run _ 38 [.str false ⟨#[124, 124]⟩, .int true .i64 a, .int true .i64 b] [] [] = some (True, .tup [.int true .i64 (S.wone a b), .int false .i64 0], []) by kernel_rfl) trivial).says (Says.tup (.cons (Says.int (rfl)) (.cons (Says.int (rfl)) (.nil))))
def S.o_Bone : Orc := orcAdd 38 (fun | [.str true t0, .int true .i64 a, .int true .i64 b] => (match t0.data.toList == [124, 124] with | true => some (.tup [.int true .i64 (S.Bone_0 a b), .int true .i64 (S.Bone_1 a b)]) | false => none) | _ => none) S.o_wmul
theorem S.o_Bone_ok : OrcOk prog S.o_Bone := orcAdd_ok S.o_wmul_ok fun a v h => by
  try dsimp only at h
  split at h
  · rename_i t0 a b
    split at h
    · rename_i ht; cases h; have ht0 := ht; obtain rfl := ba_eq ht0; exact S.Bone_sim a b
    · cases h
  · cases h
def S.Bboth_0 (a b : Int) : Int := (S.wboth a b)
def S.Bboth_1 (a b : Int) : Int := (0)
theorem S.Bboth_sim (a b : Int) : Sim prog 38 [.str true ⟨#[38, 38]⟩, .int true .i64 a, .int true .i64 b] [] (.tup [.int true .i64 (S.Bboth_0 a b), .int true .i64 (S.Bboth_1 a b)]) [] := by
 refine Sim.args (args' := [.str false ⟨#[38, 38]⟩, .int true .i64 a, .int true .i64 b]) ?_ (.cons (Says.str rfl) (.cons (Says.refl _) (.cons (Says.refl _) (.nil))))
 exact (sim_run (S.hE S.o_Bone_ok) (show run _ 38 [.str false ⟨#[38, 38]⟩, .int true .i64 a, .int true .i64 b] [] [] = some (True, .tup [.int true .i64 (S.wboth a b), .int false .i64 0], []) by kernel_rfl) trivial).says (Says.tup (.cons (Says.int (rfl)) (.cons (Says.int (rfl)) (.nil))))
def S.o_Bboth : Orc := orcAdd 38 (fun | [.str true t0, .int true .i64 a, .int true .i64 b] => (match t0.data.toList == [38, 38] with | true => some (.tup [.int true .i64 (S.Bboth_0 a b), .int true .i64 (S.Bboth_1 a b)]) | false => none) | _ => none) S.o_Bone
theorem S.o_Bboth_ok : OrcOk prog S.o_Bboth := orcAdd_ok S.o_Bone_ok fun a v h => by
  try dsimp only at h
  split at h
  · rename_i t0 a b
    split at h
    · rename_i ht; cases h; have ht0 := ht; obtain rfl := ba_eq ht0; exact S.Bboth_sim a b
    · cases h
  · cases h
def S.Bor_0 (a b : Int) : Int := (S.wor a b)
def S.Bor_1 (a b : Int) : Int := (0)
theorem S.Bor_sim (a b : Int) : Sim prog 38 [.str true ⟨#[124]⟩, .int true .i64 a, .int true .i64 b] [] (.tup [.int true .i64 (S.Bor_0 a b), .int true .i64 (S.Bor_1 a b)]) [] := by
 refine Sim.args (args' := [.str false ⟨#[124]⟩, .int true .i64 a, .int true .i64 b]) ?_ (.cons (Says.str rfl) (.cons (Says.refl _) (.cons (Says.refl _) (.nil))))
 exact (sim_run (S.hE S.o_Bboth_ok) (show run _ 38 [.str false ⟨#[124]⟩, .int true .i64 a, .int true .i64 b] [] [] = some (True, .tup [.int true .i64 (S.wor a b), .int false .i64 0], []) by kernel_rfl) trivial).says (Says.tup (.cons (Says.int (rfl)) (.cons (Says.int (rfl)) (.nil))))
def S.o_Bor : Orc := orcAdd 38 (fun | [.str true t0, .int true .i64 a, .int true .i64 b] => (match t0.data.toList == [124] with | true => some (.tup [.int true .i64 (S.Bor_0 a b), .int true .i64 (S.Bor_1 a b)]) | false => none) | _ => none) S.o_Bboth
theorem S.o_Bor_ok : OrcOk prog S.o_Bor := orcAdd_ok S.o_Bboth_ok fun a v h => by
  try dsimp only at h
  split at h
  · rename_i t0 a b
    split at h
    · rename_i ht; cases h; have ht0 := ht; obtain rfl := ba_eq ht0; exact S.Bor_sim a b
    · cases h
  · cases h
def S.Bxor_0 (a b : Int) : Int := (S.wxor a b)
def S.Bxor_1 (a b : Int) : Int := (0)
theorem S.Bxor_sim (a b : Int) : Sim prog 38 [.str true ⟨#[94]⟩, .int true .i64 a, .int true .i64 b] [] (.tup [.int true .i64 (S.Bxor_0 a b), .int true .i64 (S.Bxor_1 a b)]) [] := by
 refine Sim.args (args' := [.str false ⟨#[94]⟩, .int true .i64 a, .int true .i64 b]) ?_ (.cons (Says.str rfl) (.cons (Says.refl _) (.cons (Says.refl _) (.nil))))
 exact (sim_run (S.hE S.o_Bor_ok) (show run _ 38 [.str false ⟨#[94]⟩, .int true .i64 a, .int true .i64 b] [] [] = some (True, .tup [.int true .i64 (S.wxor a b), .int false .i64 0], []) by kernel_rfl) trivial).says (Says.tup (.cons (Says.int (rfl)) (.cons (Says.int (rfl)) (.nil))))
def S.o_Bxor : Orc := orcAdd 38 (fun | [.str true t0, .int true .i64 a, .int true .i64 b] => (match t0.data.toList == [94] with | true => some (.tup [.int true .i64 (S.Bxor_0 a b), .int true .i64 (S.Bxor_1 a b)]) | false => none) | _ => none) S.o_Bor
theorem S.o_Bxor_ok : OrcOk prog S.o_Bxor := orcAdd_ok S.o_Bor_ok fun a v h => by
  try dsimp only at h
  split at h
  · rename_i t0 a b
    split at h
    · rename_i ht; cases h; have ht0 := ht; obtain rfl := ba_eq ht0; exact S.Bxor_sim a b
    · cases h
  · cases h
def S.Band_0 (a b : Int) : Int := (S.wand a b)
def S.Band_1 (a b : Int) : Int := (0)
theorem S.Band_sim (a b : Int) : Sim prog 38 [.str true ⟨#[38]⟩, .int true .i64 a, .int true .i64 b] [] (.tup [.int true .i64 (S.Band_0 a b), .int true .i64 (S.Band_1 a b)]) [] := by
 refine Sim.args (args' := [.str false ⟨#[38]⟩, .int true .i64 a, .int true .i64 b]) ?_ (.cons (Says.str rfl) (.cons (Says.refl _) (.cons (Says.refl _) (.nil))))
 exact (sim_run (S.hE S.o_Bxor_ok) (show run _ 38 [.str false ⟨#[38]⟩, .int true .i64 a, .int true .i64 b] [] [] = some (True, .tup [.int true .i64 (S.wand a b), .int false .i64 0], []) by kernel_rfl) trivial).says (Says.tup (.cons (Says.int (rfl)) (.cons (Says.int (rfl)) (.nil))))
def S.o_Band : Orc := orcAdd 38 (fun | [.str true t0, .int true .i64 a, .int true .i64 b] => (match t0.data.toList == [38] with | true => some (.tup [.int true .i64 (S.Band_0 a b), .int true .i64 (S.Band_1 a b)]) | false => none) | _ => none) S.o_Bxor
theorem S.o_Band_ok : OrcOk prog S.o_Band := orcAdd_ok S.o_Bxor_ok fun a v h => by
  try dsimp only at h
  split at h
  · rename_i t0 a b
    split at h
    · rename_i ht; cases h; have ht0 := ht; obtain rfl := ba_eq ht0; exact S.Band_sim a b
    · cases h
  · cases h
def S.Beq_0 (a b : Int) : Int := (S.weq a b)
def S.Beq_1 (a b : Int) : Int := (0)
theorem S.Beq_sim (a b : Int) : Sim prog 38 [.str true ⟨#[61, 61]⟩, .int true .i64 a, .int true .i64 b] [] (.tup [.int true .i64 (S.Beq_0 a b), .int true .i64 (S.Beq_1 a b)]) [] := by
 refine Sim.args (args' := [.str false ⟨#[61, 61]⟩, .int true .i64 a, .int true .i64 b]) ?_ (.cons (Says.str rfl) (.cons (Says.refl _) (.cons (Says.refl _) (.nil))))
 exact (sim_run (S.hE S.o_Band_ok) (show run _ 38 [.str false ⟨#[61, 61]⟩, .int true .i64 a, .int true .i64 b] [] [] = some (True, .tup [.int true .i64 (S.weq a b), .int false .i64 0], []) by kernel_rfl) trivial).says (Says.tup (.cons (Says.int (rfl)) (.cons (Says.int (rfl)) (.nil))))
def S.o_Beq : Orc := orcAdd 38 (fun | [.str true t0, .int true .i64 a, .int true .i64 b] => (match t0.data.toList == [61, 61] with | true => some (.tup [.int true .i64 (S.Beq_0 a b), .int true .i64 (S.Beq_1 a b)]) | false => none) | _ => none) S.o_Band
theorem S.o_Beq_ok : OrcOk prog S.o_Beq := orcAdd_ok S.o_Band_ok fun a v h => by
  try dsimp only at h
  split at h
  · rename_i t0 a b
    split at h
    · rename_i ht; cases h; have ht0 := ht; obtain rfl := ba_eq ht0; exact S.Beq_sim a b
    · cases h
  · cases h
def S.Bne_0 (a b : Int) : Int := (S.wne a b)
def S.Bne_1 (a b : Int) : Int := (0)
theorem S.Bne_sim (a b : Int) : Sim prog 38 [.str true ⟨#[33, 61]⟩, .int true .i64 a, .int true .i64 b] [] (.tup [.int true .i64 (S.Bne_0 a b), .int true .i64 (S.Bne_1 a b)]) [] := by
 refine Sim.args (args' := [.str false ⟨#[33, 61]⟩, .int true .i64 a, .int true .i64 b]) ?_ (.cons (Says.str rfl) (.cons (Says.refl _) (.cons (Says.refl _) (.nil))))
 exact (sim_run (S.hE S.o_Beq_ok) (show run _ 38 [.str false ⟨#[33, 61]⟩, .int true .i64 a, .int true .i64 b] [] [] = some (True, .tup [.int true .i64 (S.wne a b), .int false .i64 0], []) by kernel_rfl) trivial).says (Says.tup (.cons (Says.int (rfl)) (.cons (Says.int (rfl)) (.nil))))
def S.o_Bne : Orc := orcAdd 38 (fun | [.str true t0, .int true .i64 a, .int true .i64 b] => (match t0.data.toList == [33, 61] with | true => some (.tup [.int true .i64 (S.Bne_0 a b), .int true .i64 (S.Bne_1 a b)]) | false => none) | _ => none) S.o_Beq
theorem S.o_Bne_ok : OrcOk prog S.o_Bne := orcAdd_ok S.o_Beq_ok fun a v h => by
  try dsimp only at h
  split at h
  · rename_i t0 a b
    split at h
    · rename_i ht; cases h; have ht0 := ht; obtain rfl := ba_eq ht0; exact S.Bne_sim a b
    · cases h
  · cases h
def S.Blt_0 (a b : Int) : Int := (S.wlt a b)
def S.Blt_1 (a b : Int) : Int := (0)
theorem S.Blt_sim (a b : Int) : Sim prog 38 [.str true ⟨#[60]⟩, .int true .i64 a, .int true .i64 b] [] (.tup [.int true .i64 (S.Blt_0 a b), .int true .i64 (S.Blt_1 a b)]) [] := by
 refine Sim.args (args' := [.str false ⟨#[60]⟩, .int true .i64 a, .int true .i64 b]) ?_ (.cons (Says.str rfl) (.cons (Says.refl _) (.cons (Says.refl _) (.nil))))
 exact (sim_run (S.hE S.o_Bne_ok) (show run _ 38 [.str false ⟨#[60]⟩, .int true .i64 a, .int true .i64 b] [] [] = some (True, .tup [.int true .i64 (S.wlt a b), .int false .i64 0], []) by kernel_rfl) trivial).says (Says.tup (.cons (Says.int (rfl)) (.cons (Says.int (rfl)) (.nil))))
def S.o_Blt : Orc := orcAdd 38 (fun | [.str true t0, .int true .i64 a, .int true .i64 b] => (match t0.data.toList == [60] with | true => some (.tup [.int true .i64 (S.Blt_0 a b), .int true .i64 (S.Blt_1 a b)]) | false => none) | _ => none) S.o_Bne
theorem S.o_Blt_ok : OrcOk prog S.o_Blt := orcAdd_ok S.o_Bne_ok fun a v h => by
  try dsimp only at h
  split at h
  · rename_i t0 a b
    split at h
    · rename_i ht; cases h; have ht0 := ht; obtain rfl := ba_eq ht0; exact S.Blt_sim a b
    · cases h
  · cases h
def S.Ble_0 (a b : Int) : Int := (S.wle a b)
def S.Ble_1 (a b : Int) : Int := (0)
theorem S.Ble_sim (a b : Int) : Sim prog 38 [.str true ⟨#[60, 61]⟩, .int true .i64 a, .int true .i64 b] [] (.tup [.int true .i64 (S.Ble_0 a b), .int true .i64 (S.Ble_1 a b)]) [] := by
 refine Sim.args (args' := [.str false ⟨#[60, 61]⟩, .int true .i64 a, .int true .i64 b]) ?_ (.cons (Says.str rfl) (.cons (Says.refl _) (.cons (Says.refl _) (.nil))))
 exact (sim_run (S.hE S.o_Blt_ok) (show run _ 38 [.str false ⟨#[60, 61]⟩, .int true .i64 a, .int true .i64 b] [] [] = some (True, .tup [.int true .i64 (S.wle a b), .int false .i64 0], []) by kernel_rfl) trivial).says (Says.tup (.cons (Says.int (rfl)) (.cons (Says.int (rfl)) (.nil))))
def S.o_Ble : Orc := orcAdd 38 (fun | [.str true t0, .int true .i64 a, .int true .i64 b] => (match t0.data.toList == [60, 61] with | true => some (.tup [.int true .i64 (S.Ble_0 a b), .int true .i64 (S.Ble_1 a b)]) | false => none) | _ => none) S.o_Blt
theorem S.o_Ble_ok : OrcOk prog S.o_Ble := orcAdd_ok S.o_Blt_ok fun a v h => by
  try dsimp only at h
  split at h
  · rename_i t0 a b
    split at h
    · rename_i ht; cases h; have ht0 := ht; obtain rfl := ba_eq ht0; exact S.Ble_sim a b
    · cases h
  · cases h
def S.Bgt_0 (a b : Int) : Int := (S.wgt a b)
def S.Bgt_1 (a b : Int) : Int := (0)
theorem S.Bgt_sim (a b : Int) : Sim prog 38 [.str true ⟨#[62]⟩, .int true .i64 a, .int true .i64 b] [] (.tup [.int true .i64 (S.Bgt_0 a b), .int true .i64 (S.Bgt_1 a b)]) [] := by
 refine Sim.args (args' := [.str false ⟨#[62]⟩, .int true .i64 a, .int true .i64 b]) ?_ (.cons (Says.str rfl) (.cons (Says.refl _) (.cons (Says.refl _) (.nil))))
 exact (sim_run (S.hE S.o_Ble_ok) (show run _ 38 [.str false ⟨#[62]⟩, .int true .i64 a, .int true .i64 b] [] [] = some (True, .tup [.int true .i64 (S.wgt a b), .int false .i64 0], []) by kernel_rfl) trivial).says (Says.tup (.cons (Says.int (rfl)) (.cons (Says.int (rfl)) (.nil))))
def S.o_Bgt : Orc := orcAdd 38 (fun | [.str true t0, .int true .i64 a, .int true .i64 b] => (match t0.data.toList == [62] with | true => some (.tup [.int true .i64 (S.Bgt_0 a b), .int true .i64 (S.Bgt_1 a b)]) | false => none) | _ => none) S.o_Ble
theorem S.o_Bgt_ok : OrcOk prog S.o_Bgt := orcAdd_ok S.o_Ble_ok fun a v h => by
  try dsimp only at h
  split at h
  · rename_i t0 a b
    split at h
    · rename_i ht; cases h; have ht0 := ht; obtain rfl := ba_eq ht0; exact S.Bgt_sim a b
    · cases h
  · cases h
def S.Bge_0 (a b : Int) : Int := (S.wge a b)
def S.Bge_1 (a b : Int) : Int := (0)
theorem S.Bge_sim (a b : Int) : Sim prog 38 [.str true ⟨#[62, 61]⟩, .int true .i64 a, .int true .i64 b] [] (.tup [.int true .i64 (S.Bge_0 a b), .int true .i64 (S.Bge_1 a b)]) [] := by
 refine Sim.args (args' := [.str false ⟨#[62, 61]⟩, .int true .i64 a, .int true .i64 b]) ?_ (.cons (Says.str rfl) (.cons (Says.refl _) (.cons (Says.refl _) (.nil))))
 exact (sim_run (S.hE S.o_Bgt_ok) (show run _ 38 [.str false ⟨#[62, 61]⟩, .int true .i64 a, .int true .i64 b] [] [] = some (True, .tup [.int true .i64 (S.wge a b), .int false .i64 0], []) by kernel_rfl) trivial).says (Says.tup (.cons (Says.int (rfl)) (.cons (Says.int (rfl)) (.nil))))
def S.o_Bge : Orc := orcAdd 38 (fun | [.str true t0, .int true .i64 a, .int true .i64 b] => (match t0.data.toList == [62, 61] with | true => some (.tup [.int true .i64 (S.Bge_0 a b), .int true .i64 (S.Bge_1 a b)]) | false => none) | _ => none) S.o_Bgt
theorem S.o_Bge_ok : OrcOk prog S.o_Bge := orcAdd_ok S.o_Bgt_ok fun a v h => by
  try dsimp only at h
  split at h
  · rename_i t0 a b
    split at h
    · rename_i ht; cases h; have ht0 := ht; obtain rfl := ba_eq ht0; exact S.Bge_sim a b
    · cases h
  · cases h
def S.Bleft_0 (a b : Int) : Int := (bif decide (b < 0) then (0) else (bif decide (b > 63) then (0) else (S.wleft a b)))
def S.Bleft_1 (a b : Int) : Int := (bif decide (b < 0) then (2) else (bif decide (b > 63) then (2) else (0)))
theorem S.Bleft_sim (a b : Int) : Sim prog 38 [.str true ⟨#[60, 60]⟩, .int true .i64 a, .int true .i64 b] [] (.tup [.int true .i64 (S.Bleft_0 a b), .int true .i64 (S.Bleft_1 a b)]) [] := by
 refine Sim.args (args' := [.str false ⟨#[60, 60]⟩, .int true .i64 a, .int true .i64 b]) ?_ (.cons (Says.str rfl) (.cons (Says.refl _) (.cons (Says.refl _) (.nil))))
 rcases Bool.eq_false_or_eq_true (decide (b < 0)) with h0 | h0
 ·
  exact (sim_run (S.hE S.o_Bge_ok) (show run _ 38 [.str false ⟨#[60, 60]⟩, .int true .i64 a, .int true .i64 b] [] [.br true] = some (True ∧ decide (b < 0) = true, .tup [.int false .i64 0, .int false .i64 2], []) by kernel_rfl) ⟨trivial, h0⟩).says (Says.tup (.cons (Says.int (by simp only [S.Bleft_0, h0, cond_true, cond_false])) (.cons (Says.int (by simp only [S.Bleft_1, h0, cond_true, cond_false])) (.nil))))
 ·
  rcases Bool.eq_false_or_eq_true (decide (b > 63)) with h1 | h1
  ·
   exact (sim_run (S.hE S.o_Bge_ok) (show run _ 38 [.str false ⟨#[60, 60]⟩, .int true .i64 a, .int true .i64 b] [] [.br false, .br true] = some ((True ∧ decide (b < 0) = false) ∧ decide (b > 63) = true, .tup [.int false .i64 0, .int false .i64 2], []) by kernel_rfl) ⟨⟨trivial, h0⟩, h1⟩).says (Says.tup (.cons (Says.int (by simp only [S.Bleft_0, h1, h0, cond_true, cond_false])) (.cons (Says.int (by simp only [S.Bleft_1, h1, h0, cond_true, cond_false])) (.nil))))
  ·
   exact (sim_run (S.hE S.o_Bge_ok) (show run _ 38 [.str false ⟨#[60, 60]⟩, .int true .i64 a, .int true .i64 b] [] [.br false, .br false] = some ((True ∧ decide (b < 0) = false) ∧ decide (b > 63) = false, .tup [.int true .i64 (S.wleft a b), .int false .i64 0], []) by kernel_rfl) ⟨⟨trivial, h0⟩, h1⟩).says (Says.tup (.cons (Says.int (by simp only [S.Bleft_0, h1, h0, cond_true, cond_false])) (.cons (Says.int (by simp only [S.Bleft_1, h1, h0, cond_true, cond_false])) (.nil))))
def S.o_Bleft : Orc := orcAdd 38 (fun | [.str true t0, .int true .i64 a, .int true .i64 b] => (match t0.data.toList == [60, 60] with | true => some (.tup [.int true .i64 (S.Bleft_0 a b), .int true .i64 (S.Bleft_1 a b)]) | false => none) | _ => none) S.o_Bge
theorem S.o_Bleft_ok : OrcOk prog S.o_Bleft := orcAdd_ok S.o_Bge_ok fun a v h => by
  try dsimp only at h
  split at h
  · rename_i t0 a b
    split at h
    · rename_i ht; cases h; have ht0 := ht; obtain rfl := ba_eq ht0; exact S.Bleft_sim a b
    · cases h
  · cases h
def S.Bright_0 (a b : Int) : Int := (bif decide (b < 0) then (0) else (bif decide (b > 63) then (0) else (S.wright a b)))
def S.Bright_1 (a b : Int) : Int := (bif decide (b < 0) then (2) else (bif decide (b > 63) then (2) else (0)))
theorem S.Bright_sim (a b : Int) : Sim prog 38 [.str true ⟨#[62, 62]⟩, .int true .i64 a, .int true .i64 b] [] (.tup [.int true .i64 (S.Bright_0 a b), .int true .i64 (S.Bright_1 a b)]) [] := by
 refine Sim.args (args' := [.str false ⟨#[62, 62]⟩, .int true .i64 a, .int true .i64 b]) ?_ (.cons (Says.str rfl) (.cons (Says.refl _) (.cons (Says.refl _) (.nil))))
 rcases Bool.eq_false_or_eq_true (decide (b < 0)) with h0 | h0
 ·
  exact (sim_run (S.hE S.o_Bleft_ok) (show run _ 38 [.str false ⟨#[62, 62]⟩, .int true .i64 a, .int true .i64 b] [] [.br true] = some (True ∧ decide (b < 0) = true, .tup [.int false .i64 0, .int false .i64 2], []) by kernel_rfl) ⟨trivial, h0⟩).says (Says.tup (.cons (Says.int (by simp only [S.Bright_0, h0, cond_true, cond_false])) (.cons (Says.int (by simp only [S.Bright_1, h0, cond_true, cond_false])) (.nil))))
 ·
  rcases Bool.eq_false_or_eq_true (decide (b > 63)) with h1 | h1
  ·
   exact (sim_run (S.hE S.o_Bleft_ok) (show run _ 38 [.str false ⟨#[62, 62]⟩, .int true .i64 a, .int true .i64 b] [] [.br false, .br true] = some ((True ∧ decide (b < 0) = false) ∧ decide (b > 63) = true, .tup [.int false .i64 0, .int false .i64 2], []) by kernel_rfl) ⟨⟨trivial, h0⟩, h1⟩).says (Says.tup (.cons (Says.int (by simp only [S.Bright_0, h1, h0, cond_true, cond_false])) (.cons (Says.int (by simp only [S.Bright_1, h1, h0, cond_true, cond_false])) (.nil))))
  ·
   exact (sim_run (S.hE S.o_Bleft_ok) (show run _ 38 [.str false ⟨#[62, 62]⟩, .int true .i64 a, .int true .i64 b] [] [.br false, .br false] = some ((True ∧ decide (b < 0) = false) ∧ decide (b > 63) = false, .tup [.int true .i64 (S.wright a b), .int false .i64 0], []) by kernel_rfl) ⟨⟨trivial, h0⟩, h1⟩).says (Says.tup (.cons (Says.int (by simp only [S.Bright_0, h1, h0, cond_true, cond_false])) (.cons (Says.int (by simp only [S.Bright_1, h1, h0, cond_true, cond_false])) (.nil))))
def S.o_Bright : Orc := orcAdd 38 (fun | [.str true t0, .int true .i64 a, .int true .i64 b] => (match t0.data.toList == [62, 62] with | true => some (.tup [.int true .i64 (S.Bright_0 a b), .int true .i64 (S.Bright_1 a b)]) | false => none) | _ => none) S.o_Bleft
theorem S.o_Bright_ok : OrcOk prog S.o_Bright := orcAdd_ok S.o_Bleft_ok fun a v h => by
  try dsimp only at h
  split at h
  · rename_i t0 a b
    split at h
    · rename_i ht; cases h; have ht0 := ht; obtain rfl := ba_eq ht0; exact S.Bright_sim a b
    · cases h
  · cases h
def S.Badd_0 (a b : Int) : Int := (S.wadd a b)
def S.Badd_1 (a b : Int) : Int := (0)
theorem S.Badd_sim (a b : Int) : Sim prog 38 [.str true ⟨#[43]⟩, .int true .i64 a, .int true .i64 b] [] (.tup [.int true .i64 (S.Badd_0 a b), .int true .i64 (S.Badd_1 a b)]) [] := by
 refine Sim.args (args' := [.str false ⟨#[43]⟩, .int true .i64 a, .int true .i64 b]) ?_ (.cons (Says.str rfl) (.cons (Says.refl _) (.cons (Says.refl _) (.nil))))
 exact (sim_run (S.hE S.o_Bright_ok) (show run _ 38 [.str false ⟨#[43]⟩, .int true .i64 a, .int true .i64 b] [] [] = some (True, .tup [.int true .i64 (S.wadd a b), .int false .i64 0], []) by kernel_rfl) trivial).says (Says.tup (.cons (Says.int (rfl)) (.cons (Says.int (rfl)) (.nil))))
def S.o_Badd : Orc := orcAdd 38 (fun | [.str true t0, .int true .i64 a, .int true .i64 b] => (match t0.data.toList == [43] with | true => some (.tup [.int true .i64 (S.Badd_0 a b), .int true .i64 (S.Badd_1 a b)]) | false => none) | _ => none) S.o_Bright
theorem S.o_Badd_ok : OrcOk prog S.o_Badd := orcAdd_ok S.o_Bright_ok fun a v h => by
  try dsimp only at h
  split at h
  · rename_i t0 a b
    split at h
    · rename_i ht; cases h; have ht0 := ht; obtain rfl := ba_eq ht0; exact S.Badd_sim a b
    · cases h
  · cases h
def S.Bsub_0 (a b : Int) : Int := (S.wsub a b)
def S.Bsub_1 (a b : Int) : Int := (0)
theorem S.Bsub_sim (a b : Int) : Sim prog 38 [.str true ⟨#[45]⟩, .int true .i64 a, .int true .i64 b] [] (.tup [.int true .i64 (S.Bsub_0 a b), .int true .i64 (S.Bsub_1 a b)]) [] := by
 refine Sim.args (args' := [.str false ⟨#[45]⟩, .int true .i64 a, .int true .i64 b]) ?_ (.cons (Says.str rfl) (.cons (Says.refl _) (.cons (Says.refl _) (.nil))))
 exact (sim_run (S.hE S.o_Badd_ok) (show run _ 38 [.str false ⟨#[45]⟩, .int true .i64 a, .int true .i64 b] [] [] = some (True, .tup [.int true .i64 (S.wsub a b), .int false .i64 0], []) by kernel_rfl) trivial).says (Says.tup (.cons (Says.int (rfl)) (.cons (Says.int (rfl)) (.nil))))
def S.o_Bsub : Orc := orcAdd 38 (fun | [.str true t0, .int true .i64 a, .int true .i64 b] => (match t0.data.toList == [45] with | true => some (.tup [.int true .i64 (S.Bsub_0 a b), .int true .i64 (S.Bsub_1 a b)]) | false => none) | _ => none) S.o_Badd
theorem S.o_Bsub_ok : OrcOk prog S.o_Bsub := orcAdd_ok S.o_Badd_ok fun a v h => by
  try dsimp only at h
  split at h
  · rename_i t0 a b
    split at h
    · rename_i ht; cases h; have ht0 := ht; obtain rfl := ba_eq ht0; exact S.Bsub_sim a b
    · cases h
  · cases h
def S.Bmul_0 (a b : Int) : Int := (S.wmul a b)
def S.Bmul_1 (a b : Int) : Int := (0)
theorem S.Bmul_sim (a b : Int) : Sim prog 38 [.str true ⟨#[42]⟩, .int true .i64 a, .int true .i64 b] [] (.tup [.int true .i64 (S.Bmul_0 a b), .int true .i64 (S.Bmul_1 a b)]) [] := by
 refine Sim.args (args' := [.str false ⟨#[42]⟩, .int true .i64 a, .int true .i64 b]) ?_ (.cons (Says.str rfl) (.cons (Says.refl _) (.cons (Says.refl _) (.nil))))
 exact (sim_run (S.hE S.o_Bsub_ok) (show run _ 38 [.str false ⟨#[42]⟩, .int true .i64 a, .int true .i64 b] [] [] = some (True, .tup [.int true .i64 (S.wmul a b), .int false .i64 0], []) by kernel_rfl) trivial).says (Says.tup (.cons (Says.int (rfl)) (.cons (Says.int (rfl)) (.nil))))
def S.o_Bmul : Orc := orcAdd 38 (fun | [.str true t0, .int true .i64 a, .int true .i64 b] => (match t0.data.toList == [42] with | true => some (.tup [.int true .i64 (S.Bmul_0 a b), .int true .i64 (S.Bmul_1 a b)]) | false => none) | _ => none) S.o_Bsub
theorem S.o_Bmul_ok : OrcOk prog S.o_Bmul := orcAdd_ok S.o_Bsub_ok fun a v h => by
  try dsimp only at h
  split at h
  · rename_i t0 a b
    split at h
    · rename_i ht; cases h; have ht0 := ht; obtain rfl := ba_eq ht0; exact S.Bmul_sim a b
    · cases h
  · cases h
def S.wneg_0 (a : Int) : Int := (IntKind.wrap .i64 (0 - a))
def S.wneg_1 (a : Int) : Bool := (true)
theorem S.wneg_sim (a : Int) : Sim prog 42 [.str true ⟨#[45]⟩, .int true .i64 a] [] (.tup [.int true .i64 (S.wneg_0 a), .bool true (S.wneg_1 a)]) [] := by
 refine Sim.args (args' := [.str false ⟨#[45]⟩, .int true .i64 a]) ?_ (.cons (Says.str rfl) (.cons (Says.refl _) (.nil)))
 exact (sim_run (S.hE S.o_Bmul_ok) (show run _ 42 [.str false ⟨#[45]⟩, .int true .i64 a] [] [] = some (True, .tup [.int true .i64 (IntKind.wrap .i64 (0 - a)), .bool false true], []) by kernel_rfl) trivial).says (Says.tup (.cons (Says.int (rfl)) (.cons (Says.bool (rfl)) (.nil))))
def S.o_wneg : Orc := orcAdd 42 (fun | [.str true t0, .int true .i64 a] => (match t0.data.toList == [45] with | true => some (.tup [.int true .i64 (S.wneg_0 a), .bool true (S.wneg_1 a)]) | false => none) | _ => none) S.o_Bmul
theorem S.o_wneg_ok : OrcOk prog S.o_wneg := orcAdd_ok S.o_Bmul_ok fun a v h => by
  try dsimp only at h
  split at h
  · rename_i t0 a
    split at h
    · rename_i ht; cases h; have ht0 := ht; obtain rfl := ba_eq ht0; exact S.wneg_sim a
    · cases h
  · cases h
def S.wnot_0 (a : Int) : Int := (IntKind.wrap .i64 ↑(BitVec.toNat (BitVec.ofInt (IntKind.bits .i64) (if IntKind.signed .i64 = true then -1 else IntKind.max .i64) ^^^ BitVec.ofInt (IntKind.bits .i64) a)))
def S.wnot_1 (a : Int) : Bool := (true)
theorem S.wnot_sim (a : Int) : Sim prog 42 [.str true ⟨#[126]⟩, .int true .i64 a] [] (.tup [.int true .i64 (S.wnot_0 a), .bool true (S.wnot_1 a)]) [] := by
 refine Sim.args (args' := [.str false ⟨#[126]⟩, .int true .i64 a]) ?_ (.cons (Says.str rfl) (.cons (Says.refl _) (.nil)))
 exact (sim_run (S.hE S.o_wneg_ok) (show run _ 42 [.str false ⟨#[126]⟩, .int true .i64 a] [] [] = some (True, .tup [.int true .i64 (IntKind.wrap .i64 ↑(BitVec.toNat (BitVec.ofInt (IntKind.bits .i64) (if IntKind.signed .i64 = true then -1 else IntKind.max .i64) ^^^ BitVec.ofInt (IntKind.bits .i64) a))), .bool false true], []) by kernel_rfl) trivial).says (Says.tup (.cons (Says.int (rfl)) (.cons (Says.bool (rfl)) (.nil))))
def S.o_wnot : Orc := orcAdd 42 (fun | [.str true t0, .int true .i64 a] => (match t0.data.toList == [126] with | true => some (.tup [.int true .i64 (S.wnot_0 a), .bool true (S.wnot_1 a)]) | false => none) | _ => none) S.o_wneg
theorem S.o_wnot_ok : OrcOk prog S.o_wnot := orcAdd_ok S.o_wneg_ok fun a v h => by
  try dsimp only at h
  split at h
  · rename_i t0 a
    split at h
    · rename_i ht; cases h; have ht0 := ht; obtain rfl := ba_eq ht0; exact S.wnot_sim a
    · cases h
  · cases h
def S.wbang_0 (a : Int) : Int := (S.weq a 0)
def S.wbang_1 (a : Int) : Bool := (true)
theorem S.wbang_sim (a : Int) : Sim prog 42 [.str true ⟨#[33]⟩, .int true .i64 a] [] (.tup [.int true .i64 (S.wbang_0 a), .bool true (S.wbang_1 a)]) [] := by
 refine Sim.args (args' := [.str false ⟨#[33]⟩, .int true .i64 a]) ?_ (.cons (Says.str rfl) (.cons (Says.refl _) (.nil)))
 exact (sim_run (S.hE S.o_wnot_ok) (show run _ 42 [.str false ⟨#[33]⟩, .int true .i64 a] [] [] = some (True, .tup [.int true .i64 (S.weq a 0), .bool false true], []) by kernel_rfl) trivial).says (Says.tup (.cons (Says.int (rfl)) (.cons (Says.bool (rfl)) (.nil))))
def S.o_wbang : Orc := orcAdd 42 (fun | [.str true t0, .int true .i64 a] => (match t0.data.toList == [33] with | true => some (.tup [.int true .i64 (S.wbang_0 a), .bool true (S.wbang_1 a)]) | false => none) | _ => none) S.o_wnot
theorem S.o_wbang_ok : OrcOk prog S.o_wbang := orcAdd_ok S.o_wnot_ok fun a v h => by
  try dsimp only at h
  split at h
  · rename_i t0 a
    split at h
    · rename_i ht; cases h; have ht0 := ht; obtain rfl := ba_eq ht0; exact S.wbang_sim a
    · cases h
  · cases h
