import Derived.Test.YtobomgckeoomkaaSpI
set_option linter.unusedVariables false
set_option linter.unusedSimpArgs false
set_option maxRecDepth 100000
open Go Go.Im Go.Proofs.Try
namespace S
theorem tl_data (t : ByteArray) : t.toList = t.data.toList := ByteArray.toList_eq t
theorem ne_toList {t : ByteArray} {l : List UInt8} (h : ¬ t.data.toList = l) : (ByteArray.toList ⟨⟨l⟩⟩ == ByteArray.toList t) = false := by
  rw [tl_data, tl_data]
  simpa using fun e => h e.symm
theorem ne_data {t : ByteArray} {l : List UInt8} (h : ¬ t.data.toList = l) : (t.data.toList == l) = false := by simpa using h
theorem ba_eq' {t : ByteArray} {l : List UInt8} (h : t.data.toList = l) : t = ⟨l.toArray⟩ := by
  obtain ⟨⟨d⟩⟩ := t
  simp at h
  rw [h]
theorem find_none (t : ByteArray) (h0 : ¬ t.data.toList = [124, 124]) (h1 : ¬ t.data.toList = [38, 38]) (h2 : ¬ t.data.toList = [124]) (h3 : ¬ t.data.toList = [94]) (h4 : ¬ t.data.toList = [38]) (h5 : ¬ t.data.toList = [61, 61]) (h6 : ¬ t.data.toList = [33, 61]) (h7 : ¬ t.data.toList = [60]) (h8 : ¬ t.data.toList = [60, 61]) (h9 : ¬ t.data.toList = [62]) (h10 : ¬ t.data.toList = [62, 61]) (h11 : ¬ t.data.toList = [60, 60]) (h12 : ¬ t.data.toList = [62, 62]) (h13 : ¬ t.data.toList = [43]) (h14 : ¬ t.data.toList = [45]) (h15 : ¬ t.data.toList = [42]) (h16 : ¬ t.data.toList = [47]) (h17 : ¬ t.data.toList = [37]) : Sim prog 74 [.str true t] [] (.tup [.agg [.str false ⟨#[]⟩, .int false .i64 0, .nilf], .bool false false]) [] :=
  sim_run (E := envC prog imA 300 {} o_Squo) (envC_ok hmixed o_Squo_ok) (ps := [.br false, .br false, .br false, .br false, .br false, .br false, .br false, .br false, .br false, .br false, .br false, .br false, .br false, .br false, .br false, .br false, .br false, .br false]) (show run _ 74 [.str true t] [] [.br false, .br false, .br false, .br false, .br false, .br false, .br false, .br false, .br false, .br false, .br false, .br false, .br false, .br false, .br false, .br false, .br false, .br false] = some (((((((((((((((((((True ∧ (ByteArray.toList ⟨#[124, 124]⟩ == ByteArray.toList t) = false) ∧ (ByteArray.toList ⟨#[38, 38]⟩ == ByteArray.toList t) = false) ∧ (ByteArray.toList ⟨#[124]⟩ == ByteArray.toList t) = false) ∧ (ByteArray.toList ⟨#[94]⟩ == ByteArray.toList t) = false) ∧ (ByteArray.toList ⟨#[38]⟩ == ByteArray.toList t) = false) ∧ (ByteArray.toList ⟨#[61, 61]⟩ == ByteArray.toList t) = false) ∧ (ByteArray.toList ⟨#[33, 61]⟩ == ByteArray.toList t) = false) ∧ (ByteArray.toList ⟨#[60]⟩ == ByteArray.toList t) = false) ∧ (ByteArray.toList ⟨#[60, 61]⟩ == ByteArray.toList t) = false) ∧ (ByteArray.toList ⟨#[62]⟩ == ByteArray.toList t) = false) ∧ (ByteArray.toList ⟨#[62, 61]⟩ == ByteArray.toList t) = false) ∧ (ByteArray.toList ⟨#[60, 60]⟩ == ByteArray.toList t) = false) ∧ (ByteArray.toList ⟨#[62, 62]⟩ == ByteArray.toList t) = false) ∧ (ByteArray.toList ⟨#[43]⟩ == ByteArray.toList t) = false) ∧ (ByteArray.toList ⟨#[45]⟩ == ByteArray.toList t) = false) ∧ (ByteArray.toList ⟨#[42]⟩ == ByteArray.toList t) = false) ∧ (ByteArray.toList ⟨#[47]⟩ == ByteArray.toList t) = false) ∧ (ByteArray.toList ⟨#[37]⟩ == ByteArray.toList t) = false), .tup [.agg [.str false ⟨#[]⟩, .int false .i64 0, .nilf], .bool false false], []) by kernel_rfl) ⟨⟨⟨⟨⟨⟨⟨⟨⟨⟨⟨⟨⟨⟨⟨⟨⟨⟨trivial, ne_toList h0⟩, ne_toList h1⟩, ne_toList h2⟩, ne_toList h3⟩, ne_toList h4⟩, ne_toList h5⟩, ne_toList h6⟩, ne_toList h7⟩, ne_toList h8⟩, ne_toList h9⟩, ne_toList h10⟩, ne_toList h11⟩, ne_toList h12⟩, ne_toList h13⟩, ne_toList h14⟩, ne_toList h15⟩, ne_toList h16⟩, ne_toList h17⟩
theorem B_none (t : ByteArray) (a b : Int) (h0 : ¬ t.data.toList = [124, 124]) (h1 : ¬ t.data.toList = [38, 38]) (h2 : ¬ t.data.toList = [124]) (h3 : ¬ t.data.toList = [94]) (h4 : ¬ t.data.toList = [38]) (h5 : ¬ t.data.toList = [61, 61]) (h6 : ¬ t.data.toList = [33, 61]) (h7 : ¬ t.data.toList = [60]) (h8 : ¬ t.data.toList = [60, 61]) (h9 : ¬ t.data.toList = [62]) (h10 : ¬ t.data.toList = [62, 61]) (h11 : ¬ t.data.toList = [60, 60]) (h12 : ¬ t.data.toList = [62, 62]) (h13 : ¬ t.data.toList = [43]) (h14 : ¬ t.data.toList = [45]) (h15 : ¬ t.data.toList = [42]) (h16 : ¬ t.data.toList = [47]) (h17 : ¬ t.data.toList = [37]) : Sim prog 38 [.str true t, .int true .i64 a, .int true .i64 b] [] (.tup [.int false .i64 0, .int false .i64 0]) [] :=
  sim_run (E := envC prog imA 300 {} o_Squo) (envC_ok hmixed o_Squo_ok) (ps := [.res 74 (.tup [.agg [.str false ⟨#[]⟩, .int false .i64 0, .nilf], .bool false false]) []]) (show run _ 38 [.str true t, .int true .i64 a, .int true .i64 b] [] [.res 74 (.tup [.agg [.str false ⟨#[]⟩, .int false .i64 0, .nilf], .bool false false]) []] = some (True ∧ Sim prog 74 [.str true t] [] (.tup [.agg [.str false ⟨#[]⟩, .int false .i64 0, .nilf], .bool false false]) [], .tup [.int false .i64 0, .int false .i64 0], []) by kernel_rfl) ⟨trivial, find_none t h0 h1 h2 h3 h4 h5 h6 h7 h8 h9 h10 h11 h12 h13 h14 h15 h16 h17⟩
theorem L_none (t : ByteArray) (h0 : ¬ t.data.toList = [124, 124]) (h1 : ¬ t.data.toList = [38, 38]) (h2 : ¬ t.data.toList = [124]) (h3 : ¬ t.data.toList = [94]) (h4 : ¬ t.data.toList = [38]) (h5 : ¬ t.data.toList = [61, 61]) (h6 : ¬ t.data.toList = [33, 61]) (h7 : ¬ t.data.toList = [60]) (h8 : ¬ t.data.toList = [60, 61]) (h9 : ¬ t.data.toList = [62]) (h10 : ¬ t.data.toList = [62, 61]) (h11 : ¬ t.data.toList = [60, 60]) (h12 : ¬ t.data.toList = [62, 62]) (h13 : ¬ t.data.toList = [43]) (h14 : ¬ t.data.toList = [45]) (h15 : ¬ t.data.toList = [42]) (h16 : ¬ t.data.toList = [47]) (h17 : ¬ t.data.toList = [37]) : Sim prog 45 [.str true t] [] (.int false .i64 0) [] :=
  sim_run (E := envC prog imA 300 {} o_Squo) (envC_ok hmixed o_Squo_ok) (ps := [.res 74 (.tup [.agg [.str false ⟨#[]⟩, .int false .i64 0, .nilf], .bool false false]) []]) (show run _ 45 [.str true t] [] [.res 74 (.tup [.agg [.str false ⟨#[]⟩, .int false .i64 0, .nilf], .bool false false]) []] = some (True ∧ Sim prog 74 [.str true t] [] (.tup [.agg [.str false ⟨#[]⟩, .int false .i64 0, .nilf], .bool false false]) [], .int false .i64 0, []) by kernel_rfl) ⟨trivial, find_none t h0 h1 h2 h3 h4 h5 h6 h7 h8 h9 h10 h11 h12 h13 h14 h15 h16 h17⟩
theorem SB_none (t : ByteArray) (a b c d : Int) (h0 : ¬ t.data.toList = [124, 124]) (h1 : ¬ t.data.toList = [38, 38]) (h2 : ¬ t.data.toList = [124]) (h3 : ¬ t.data.toList = [94]) (h4 : ¬ t.data.toList = [38]) (h5 : ¬ t.data.toList = [61, 61]) (h6 : ¬ t.data.toList = [33, 61]) (h7 : ¬ t.data.toList = [60]) (h8 : ¬ t.data.toList = [60, 61]) (h9 : ¬ t.data.toList = [62]) (h10 : ¬ t.data.toList = [62, 61]) (h11 : ¬ t.data.toList = [60, 60]) (h12 : ¬ t.data.toList = [62, 62]) (h13 : ¬ t.data.toList = [43]) (h14 : ¬ t.data.toList = [45]) (h15 : ¬ t.data.toList = [42]) (h16 : ¬ t.data.toList = [47]) (h17 : ¬ t.data.toList = [37]) : Sim prog 15 [.str true t, .agg [.int true .i64 a, .int true .i64 b], .agg [.int true .i64 c, .int true .i64 d]] [] (.agg [.int false .i64 1, .int false .i64 0]) [] := by
  rcases Bool.eq_false_or_eq_true (Empty a b) with e0 | e0
  · exact sim_run (E := envC prog imA 300 {} o_Squo) (envC_ok hmixed o_Squo_ok) (ps := [.br true]) (show run _ 15 [.str true t, .agg [.int true .i64 a, .int true .i64 b], .agg [.int true .i64 c, .int true .i64 d]] [] [.br true] = some (True ∧ Empty a b = true, .agg [.int false .i64 1, .int false .i64 0], []) by kernel_rfl) ⟨trivial, e0⟩
  rcases Bool.eq_false_or_eq_true (Empty c d) with e1 | e1
  · exact sim_run (E := envC prog imA 300 {} o_Squo) (envC_ok hmixed o_Squo_ok) (ps := [.br false, .br true]) (show run _ 15 [.str true t, .agg [.int true .i64 a, .int true .i64 b], .agg [.int true .i64 c, .int true .i64 d]] [] [.br false, .br true] = some ((True ∧ Empty a b = false) ∧ Empty c d = true, .agg [.int false .i64 1, .int false .i64 0], []) by kernel_rfl) ⟨⟨trivial, e0⟩, e1⟩
  · exact sim_run (E := envC prog imA 300 {} o_Squo) (envC_ok hmixed o_Squo_ok) (ps := [.br false, .br false, .res 45 (.int false .i64 0) []]) (show run _ 15 [.str true t, .agg [.int true .i64 a, .int true .i64 b], .agg [.int true .i64 c, .int true .i64 d]] [] [.br false, .br false, .res 45 (.int false .i64 0) []] = some (((True ∧ Empty a b = false) ∧ Empty c d = false) ∧ Sim prog 45 [.str true t] [] (.int false .i64 0) [], .agg [.int false .i64 1, .int false .i64 0], []) by kernel_rfl) ⟨⟨⟨trivial, e0⟩, e1⟩, L_none t h0 h1 h2 h3 h4 h5 h6 h7 h8 h9 h10 h11 h12 h13 h14 h15 h16 h17⟩
def WB_0 (t : ByteArray) (a b : Int) : Int := (bif t.data.toList == [124, 124] then S.Bone_0 a b else (bif t.data.toList == [38, 38] then S.Bboth_0 a b else (bif t.data.toList == [124] then S.Bor_0 a b else (bif t.data.toList == [94] then S.Bxor_0 a b else (bif t.data.toList == [38] then S.Band_0 a b else (bif t.data.toList == [61, 61] then S.Beq_0 a b else (bif t.data.toList == [33, 61] then S.Bne_0 a b else (bif t.data.toList == [60] then S.Blt_0 a b else (bif t.data.toList == [60, 61] then S.Ble_0 a b else (bif t.data.toList == [62] then S.Bgt_0 a b else (bif t.data.toList == [62, 61] then S.Bge_0 a b else (bif t.data.toList == [60, 60] then S.Bleft_0 a b else (bif t.data.toList == [62, 62] then S.Bright_0 a b else (bif t.data.toList == [43] then S.Badd_0 a b else (bif t.data.toList == [45] then S.Bsub_0 a b else (bif t.data.toList == [42] then S.Bmul_0 a b else (bif t.data.toList == [47] then S.Bquo_0 a b else (bif t.data.toList == [37] then S.Brem_0 a b else 0))))))))))))))))))
def WB_1 (t : ByteArray) (a b : Int) : Int := (bif t.data.toList == [124, 124] then S.Bone_1 a b else (bif t.data.toList == [38, 38] then S.Bboth_1 a b else (bif t.data.toList == [124] then S.Bor_1 a b else (bif t.data.toList == [94] then S.Bxor_1 a b else (bif t.data.toList == [38] then S.Band_1 a b else (bif t.data.toList == [61, 61] then S.Beq_1 a b else (bif t.data.toList == [33, 61] then S.Bne_1 a b else (bif t.data.toList == [60] then S.Blt_1 a b else (bif t.data.toList == [60, 61] then S.Ble_1 a b else (bif t.data.toList == [62] then S.Bgt_1 a b else (bif t.data.toList == [62, 61] then S.Bge_1 a b else (bif t.data.toList == [60, 60] then S.Bleft_1 a b else (bif t.data.toList == [62, 62] then S.Bright_1 a b else (bif t.data.toList == [43] then S.Badd_1 a b else (bif t.data.toList == [45] then S.Bsub_1 a b else (bif t.data.toList == [42] then S.Bmul_1 a b else (bif t.data.toList == [47] then S.Bquo_1 a b else (bif t.data.toList == [37] then S.Bquo_1 a b else 0))))))))))))))))))
def LV (t : ByteArray) : Int := (bif t.data.toList == [124, 124] then 1 else (bif t.data.toList == [38, 38] then 2 else (bif t.data.toList == [124] then 3 else (bif t.data.toList == [94] then 4 else (bif t.data.toList == [38] then 5 else (bif t.data.toList == [61, 61] then 6 else (bif t.data.toList == [33, 61] then 6 else (bif t.data.toList == [60] then 7 else (bif t.data.toList == [60, 61] then 7 else (bif t.data.toList == [62] then 7 else (bif t.data.toList == [62, 61] then 7 else (bif t.data.toList == [60, 60] then 8 else (bif t.data.toList == [62, 62] then 8 else (bif t.data.toList == [43] then 9 else (bif t.data.toList == [45] then 9 else (bif t.data.toList == [42] then 10 else (bif t.data.toList == [47] then 10 else (bif t.data.toList == [37] then 10 else 0))))))))))))))))))
def SB_0 (t : ByteArray) (a b c d : Int) : Int := (bif t.data.toList == [124, 124] then S.Sone_0 a b c d else (bif t.data.toList == [38, 38] then S.Sboth_0 a b c d else (bif t.data.toList == [124] then S.Sor_0 a b c d else (bif t.data.toList == [94] then S.Sxor_0 a b c d else (bif t.data.toList == [38] then S.Sand_0 a b c d else (bif t.data.toList == [61, 61] then S.Seql_0 a b c d else (bif t.data.toList == [33, 61] then S.Sneq_0 a b c d else (bif t.data.toList == [60] then S.Slth_0 a b c d else (bif t.data.toList == [60, 61] then S.Sleq_0 a b c d else (bif t.data.toList == [62] then S.Sgth_0 a b c d else (bif t.data.toList == [62, 61] then S.Sgeq_0 a b c d else (bif t.data.toList == [60, 60] then S.Sleft_0 a b c d else (bif t.data.toList == [62, 62] then S.Sright_0 a b c d else (bif t.data.toList == [43] then S.Sadd_0 a b c d else (bif t.data.toList == [45] then S.Ssub_0 a b c d else (bif t.data.toList == [42] then S.Smul_0 a b c d else (bif t.data.toList == [47] then S.Squo_0 a b c d else (bif t.data.toList == [37] then S.Srem_0 a b c d else 1))))))))))))))))))
def SB_1 (t : ByteArray) (a b c d : Int) : Int := (bif t.data.toList == [124, 124] then S.Sone_1 a b c d else (bif t.data.toList == [38, 38] then S.Sboth_1 a b c d else (bif t.data.toList == [124] then S.Sor_1 a b c d else (bif t.data.toList == [94] then S.Sxor_1 a b c d else (bif t.data.toList == [38] then S.Sand_1 a b c d else (bif t.data.toList == [61, 61] then S.Seql_1 a b c d else (bif t.data.toList == [33, 61] then S.Sneq_1 a b c d else (bif t.data.toList == [60] then S.Slth_1 a b c d else (bif t.data.toList == [60, 61] then S.Sleq_1 a b c d else (bif t.data.toList == [62] then S.Sgth_1 a b c d else (bif t.data.toList == [62, 61] then S.Sgeq_1 a b c d else (bif t.data.toList == [60, 60] then S.Sleft_1 a b c d else (bif t.data.toList == [62, 62] then S.Sright_1 a b c d else (bif t.data.toList == [43] then S.Sadd_1 a b c d else (bif t.data.toList == [45] then S.Ssub_1 a b c d else (bif t.data.toList == [42] then S.Smul_1 a b c d else (bif t.data.toList == [47] then S.Squo_1 a b c d else (bif t.data.toList == [37] then S.Srem_1 a b c d else 0))))))))))))))))))
theorem WB_sim (t : ByteArray) (a b : Int) : Sim prog 38 [.str true t, .int true .i64 a, .int true .i64 b] [] (.tup [.int true .i64 (WB_0 t a b), .int true .i64 (WB_1 t a b)]) [] := by
  by_cases h0 : t.data.toList = [124, 124]
  · obtain rfl := ba_eq' h0; exact (Bone_sim a b).says (Says.tup (.cons (Says.int rfl) (.cons (Says.int rfl) .nil)))
  by_cases h1 : t.data.toList = [38, 38]
  · obtain rfl := ba_eq' h1; exact (Bboth_sim a b).says (Says.tup (.cons (Says.int rfl) (.cons (Says.int rfl) .nil)))
  by_cases h2 : t.data.toList = [124]
  · obtain rfl := ba_eq' h2; exact (Bor_sim a b).says (Says.tup (.cons (Says.int rfl) (.cons (Says.int rfl) .nil)))
  by_cases h3 : t.data.toList = [94]
  · obtain rfl := ba_eq' h3; exact (Bxor_sim a b).says (Says.tup (.cons (Says.int rfl) (.cons (Says.int rfl) .nil)))
  by_cases h4 : t.data.toList = [38]
  · obtain rfl := ba_eq' h4; exact (Band_sim a b).says (Says.tup (.cons (Says.int rfl) (.cons (Says.int rfl) .nil)))
  by_cases h5 : t.data.toList = [61, 61]
  · obtain rfl := ba_eq' h5; exact (Beq_sim a b).says (Says.tup (.cons (Says.int rfl) (.cons (Says.int rfl) .nil)))
  by_cases h6 : t.data.toList = [33, 61]
  · obtain rfl := ba_eq' h6; exact (Bne_sim a b).says (Says.tup (.cons (Says.int rfl) (.cons (Says.int rfl) .nil)))
  by_cases h7 : t.data.toList = [60]
  · obtain rfl := ba_eq' h7; exact (Blt_sim a b).says (Says.tup (.cons (Says.int rfl) (.cons (Says.int rfl) .nil)))
  by_cases h8 : t.data.toList = [60, 61]
  · obtain rfl := ba_eq' h8; exact (Ble_sim a b).says (Says.tup (.cons (Says.int rfl) (.cons (Says.int rfl) .nil)))
  by_cases h9 : t.data.toList = [62]
  · obtain rfl := ba_eq' h9; exact (Bgt_sim a b).says (Says.tup (.cons (Says.int rfl) (.cons (Says.int rfl) .nil)))
  by_cases h10 : t.data.toList = [62, 61]
  · obtain rfl := ba_eq' h10; exact (Bge_sim a b).says (Says.tup (.cons (Says.int rfl) (.cons (Says.int rfl) .nil)))
  by_cases h11 : t.data.toList = [60, 60]
  · obtain rfl := ba_eq' h11; exact (Bleft_sim a b).says (Says.tup (.cons (Says.int rfl) (.cons (Says.int rfl) .nil)))
  by_cases h12 : t.data.toList = [62, 62]
  · obtain rfl := ba_eq' h12; exact (Bright_sim a b).says (Says.tup (.cons (Says.int rfl) (.cons (Says.int rfl) .nil)))
  by_cases h13 : t.data.toList = [43]
  · obtain rfl := ba_eq' h13; exact (Badd_sim a b).says (Says.tup (.cons (Says.int rfl) (.cons (Says.int rfl) .nil)))
  by_cases h14 : t.data.toList = [45]
  · obtain rfl := ba_eq' h14; exact (Bsub_sim a b).says (Says.tup (.cons (Says.int rfl) (.cons (Says.int rfl) .nil)))
  by_cases h15 : t.data.toList = [42]
  · obtain rfl := ba_eq' h15; exact (Bmul_sim a b).says (Says.tup (.cons (Says.int rfl) (.cons (Says.int rfl) .nil)))
  by_cases h16 : t.data.toList = [47]
  · obtain rfl := ba_eq' h16; exact (bquo_sim a b).says (Says.tup (.cons (Says.int rfl) (.cons (Says.int rfl) .nil)))
  by_cases h17 : t.data.toList = [37]
  · obtain rfl := ba_eq' h17; exact (brem_sim a b).says (Says.tup (.cons (Says.int rfl) (.cons (Says.int rfl) .nil)))
  exact (B_none t a b h0 h1 h2 h3 h4 h5 h6 h7 h8 h9 h10 h11 h12 h13 h14 h15 h16 h17).says (Says.tup (.cons (Says.int (by simp only [WB_0, ne_data h0, ne_data h1, ne_data h2, ne_data h3, ne_data h4, ne_data h5, ne_data h6, ne_data h7, ne_data h8, ne_data h9, ne_data h10, ne_data h11, ne_data h12, ne_data h13, ne_data h14, ne_data h15, ne_data h16, ne_data h17, cond_false])) (.cons (Says.int (by simp only [WB_1, ne_data h0, ne_data h1, ne_data h2, ne_data h3, ne_data h4, ne_data h5, ne_data h6, ne_data h7, ne_data h8, ne_data h9, ne_data h10, ne_data h11, ne_data h12, ne_data h13, ne_data h14, ne_data h15, ne_data h16, ne_data h17, cond_false])) .nil)))
theorem LV_sim (t : ByteArray) : Sim prog 45 [.str true t] [] (.int true .i64 (LV t)) [] := by
  by_cases h0 : t.data.toList = [124, 124]
  · obtain rfl := ba_eq' h0; exact (Sim.args (sim_run (E := envC prog imA 300 {} o_Squo) (envC_ok hmixed o_Squo_ok) (ps := []) (show run _ 45 [.str false ⟨#[124, 124]⟩] [] [] = some (True, .int false .i64 1, []) by kernel_rfl) trivial) (.cons (Says.str rfl) .nil)).says (Says.int rfl)
  by_cases h1 : t.data.toList = [38, 38]
  · obtain rfl := ba_eq' h1; exact (Sim.args (sim_run (E := envC prog imA 300 {} o_Squo) (envC_ok hmixed o_Squo_ok) (ps := []) (show run _ 45 [.str false ⟨#[38, 38]⟩] [] [] = some (True, .int false .i64 2, []) by kernel_rfl) trivial) (.cons (Says.str rfl) .nil)).says (Says.int rfl)
  by_cases h2 : t.data.toList = [124]
  · obtain rfl := ba_eq' h2; exact (Sim.args (sim_run (E := envC prog imA 300 {} o_Squo) (envC_ok hmixed o_Squo_ok) (ps := []) (show run _ 45 [.str false ⟨#[124]⟩] [] [] = some (True, .int false .i64 3, []) by kernel_rfl) trivial) (.cons (Says.str rfl) .nil)).says (Says.int rfl)
  by_cases h3 : t.data.toList = [94]
  · obtain rfl := ba_eq' h3; exact (Sim.args (sim_run (E := envC prog imA 300 {} o_Squo) (envC_ok hmixed o_Squo_ok) (ps := []) (show run _ 45 [.str false ⟨#[94]⟩] [] [] = some (True, .int false .i64 4, []) by kernel_rfl) trivial) (.cons (Says.str rfl) .nil)).says (Says.int rfl)
  by_cases h4 : t.data.toList = [38]
  · obtain rfl := ba_eq' h4; exact (Sim.args (sim_run (E := envC prog imA 300 {} o_Squo) (envC_ok hmixed o_Squo_ok) (ps := []) (show run _ 45 [.str false ⟨#[38]⟩] [] [] = some (True, .int false .i64 5, []) by kernel_rfl) trivial) (.cons (Says.str rfl) .nil)).says (Says.int rfl)
  by_cases h5 : t.data.toList = [61, 61]
  · obtain rfl := ba_eq' h5; exact (Sim.args (sim_run (E := envC prog imA 300 {} o_Squo) (envC_ok hmixed o_Squo_ok) (ps := []) (show run _ 45 [.str false ⟨#[61, 61]⟩] [] [] = some (True, .int false .i64 6, []) by kernel_rfl) trivial) (.cons (Says.str rfl) .nil)).says (Says.int rfl)
  by_cases h6 : t.data.toList = [33, 61]
  · obtain rfl := ba_eq' h6; exact (Sim.args (sim_run (E := envC prog imA 300 {} o_Squo) (envC_ok hmixed o_Squo_ok) (ps := []) (show run _ 45 [.str false ⟨#[33, 61]⟩] [] [] = some (True, .int false .i64 6, []) by kernel_rfl) trivial) (.cons (Says.str rfl) .nil)).says (Says.int rfl)
  by_cases h7 : t.data.toList = [60]
  · obtain rfl := ba_eq' h7; exact (Sim.args (sim_run (E := envC prog imA 300 {} o_Squo) (envC_ok hmixed o_Squo_ok) (ps := []) (show run _ 45 [.str false ⟨#[60]⟩] [] [] = some (True, .int false .i64 7, []) by kernel_rfl) trivial) (.cons (Says.str rfl) .nil)).says (Says.int rfl)
  by_cases h8 : t.data.toList = [60, 61]
  · obtain rfl := ba_eq' h8; exact (Sim.args (sim_run (E := envC prog imA 300 {} o_Squo) (envC_ok hmixed o_Squo_ok) (ps := []) (show run _ 45 [.str false ⟨#[60, 61]⟩] [] [] = some (True, .int false .i64 7, []) by kernel_rfl) trivial) (.cons (Says.str rfl) .nil)).says (Says.int rfl)
  by_cases h9 : t.data.toList = [62]
  · obtain rfl := ba_eq' h9; exact (Sim.args (sim_run (E := envC prog imA 300 {} o_Squo) (envC_ok hmixed o_Squo_ok) (ps := []) (show run _ 45 [.str false ⟨#[62]⟩] [] [] = some (True, .int false .i64 7, []) by kernel_rfl) trivial) (.cons (Says.str rfl) .nil)).says (Says.int rfl)
  by_cases h10 : t.data.toList = [62, 61]
  · obtain rfl := ba_eq' h10; exact (Sim.args (sim_run (E := envC prog imA 300 {} o_Squo) (envC_ok hmixed o_Squo_ok) (ps := []) (show run _ 45 [.str false ⟨#[62, 61]⟩] [] [] = some (True, .int false .i64 7, []) by kernel_rfl) trivial) (.cons (Says.str rfl) .nil)).says (Says.int rfl)
  by_cases h11 : t.data.toList = [60, 60]
  · obtain rfl := ba_eq' h11; exact (Sim.args (sim_run (E := envC prog imA 300 {} o_Squo) (envC_ok hmixed o_Squo_ok) (ps := []) (show run _ 45 [.str false ⟨#[60, 60]⟩] [] [] = some (True, .int false .i64 8, []) by kernel_rfl) trivial) (.cons (Says.str rfl) .nil)).says (Says.int rfl)
  by_cases h12 : t.data.toList = [62, 62]
  · obtain rfl := ba_eq' h12; exact (Sim.args (sim_run (E := envC prog imA 300 {} o_Squo) (envC_ok hmixed o_Squo_ok) (ps := []) (show run _ 45 [.str false ⟨#[62, 62]⟩] [] [] = some (True, .int false .i64 8, []) by kernel_rfl) trivial) (.cons (Says.str rfl) .nil)).says (Says.int rfl)
  by_cases h13 : t.data.toList = [43]
  · obtain rfl := ba_eq' h13; exact (Sim.args (sim_run (E := envC prog imA 300 {} o_Squo) (envC_ok hmixed o_Squo_ok) (ps := []) (show run _ 45 [.str false ⟨#[43]⟩] [] [] = some (True, .int false .i64 9, []) by kernel_rfl) trivial) (.cons (Says.str rfl) .nil)).says (Says.int rfl)
  by_cases h14 : t.data.toList = [45]
  · obtain rfl := ba_eq' h14; exact (Sim.args (sim_run (E := envC prog imA 300 {} o_Squo) (envC_ok hmixed o_Squo_ok) (ps := []) (show run _ 45 [.str false ⟨#[45]⟩] [] [] = some (True, .int false .i64 9, []) by kernel_rfl) trivial) (.cons (Says.str rfl) .nil)).says (Says.int rfl)
  by_cases h15 : t.data.toList = [42]
  · obtain rfl := ba_eq' h15; exact (Sim.args (sim_run (E := envC prog imA 300 {} o_Squo) (envC_ok hmixed o_Squo_ok) (ps := []) (show run _ 45 [.str false ⟨#[42]⟩] [] [] = some (True, .int false .i64 10, []) by kernel_rfl) trivial) (.cons (Says.str rfl) .nil)).says (Says.int rfl)
  by_cases h16 : t.data.toList = [47]
  · obtain rfl := ba_eq' h16; exact (Sim.args (sim_run (E := envC prog imA 300 {} o_Squo) (envC_ok hmixed o_Squo_ok) (ps := []) (show run _ 45 [.str false ⟨#[47]⟩] [] [] = some (True, .int false .i64 10, []) by kernel_rfl) trivial) (.cons (Says.str rfl) .nil)).says (Says.int rfl)
  by_cases h17 : t.data.toList = [37]
  · obtain rfl := ba_eq' h17; exact (Sim.args (sim_run (E := envC prog imA 300 {} o_Squo) (envC_ok hmixed o_Squo_ok) (ps := []) (show run _ 45 [.str false ⟨#[37]⟩] [] [] = some (True, .int false .i64 10, []) by kernel_rfl) trivial) (.cons (Says.str rfl) .nil)).says (Says.int rfl)
  exact (L_none t h0 h1 h2 h3 h4 h5 h6 h7 h8 h9 h10 h11 h12 h13 h14 h15 h16 h17).says (Says.int (by simp only [LV, ne_data h0, ne_data h1, ne_data h2, ne_data h3, ne_data h4, ne_data h5, ne_data h6, ne_data h7, ne_data h8, ne_data h9, ne_data h10, ne_data h11, ne_data h12, ne_data h13, ne_data h14, ne_data h15, ne_data h16, ne_data h17, cond_false]))
theorem SB_sim (t : ByteArray) (a b c d : Int) : Sim prog 15 [.str true t, .agg [.int true .i64 a, .int true .i64 b], .agg [.int true .i64 c, .int true .i64 d]] [] (.agg [.int true .i64 (SB_0 t a b c d), .int true .i64 (SB_1 t a b c d)]) [] := by
  by_cases h0 : t.data.toList = [124, 124]
  · obtain rfl := ba_eq' h0; exact (Sone_sim a b c d).says (Says.agg (.cons (Says.int rfl) (.cons (Says.int rfl) .nil)))
  by_cases h1 : t.data.toList = [38, 38]
  · obtain rfl := ba_eq' h1; exact (Sboth_sim a b c d).says (Says.agg (.cons (Says.int rfl) (.cons (Says.int rfl) .nil)))
  by_cases h2 : t.data.toList = [124]
  · obtain rfl := ba_eq' h2; exact (Sor_sim a b c d).says (Says.agg (.cons (Says.int rfl) (.cons (Says.int rfl) .nil)))
  by_cases h3 : t.data.toList = [94]
  · obtain rfl := ba_eq' h3; exact (Sxor_sim a b c d).says (Says.agg (.cons (Says.int rfl) (.cons (Says.int rfl) .nil)))
  by_cases h4 : t.data.toList = [38]
  · obtain rfl := ba_eq' h4; exact (Sand_sim a b c d).says (Says.agg (.cons (Says.int rfl) (.cons (Says.int rfl) .nil)))
  by_cases h5 : t.data.toList = [61, 61]
  · obtain rfl := ba_eq' h5; exact (Seql_sim a b c d).says (Says.agg (.cons (Says.int rfl) (.cons (Says.int rfl) .nil)))
  by_cases h6 : t.data.toList = [33, 61]
  · obtain rfl := ba_eq' h6; exact (Sneq_sim a b c d).says (Says.agg (.cons (Says.int rfl) (.cons (Says.int rfl) .nil)))
  by_cases h7 : t.data.toList = [60]
  · obtain rfl := ba_eq' h7; exact (Slth_sim a b c d).says (Says.agg (.cons (Says.int rfl) (.cons (Says.int rfl) .nil)))
  by_cases h8 : t.data.toList = [60, 61]
  · obtain rfl := ba_eq' h8; exact (Sleq_sim a b c d).says (Says.agg (.cons (Says.int rfl) (.cons (Says.int rfl) .nil)))
  by_cases h9 : t.data.toList = [62]
  · obtain rfl := ba_eq' h9; exact (Sgth_sim a b c d).says (Says.agg (.cons (Says.int rfl) (.cons (Says.int rfl) .nil)))
  by_cases h10 : t.data.toList = [62, 61]
  · obtain rfl := ba_eq' h10; exact (Sgeq_sim a b c d).says (Says.agg (.cons (Says.int rfl) (.cons (Says.int rfl) .nil)))
  by_cases h11 : t.data.toList = [60, 60]
  · obtain rfl := ba_eq' h11; exact (Sleft_sim a b c d).says (Says.agg (.cons (Says.int rfl) (.cons (Says.int rfl) .nil)))
  by_cases h12 : t.data.toList = [62, 62]
  · obtain rfl := ba_eq' h12; exact (Sright_sim a b c d).says (Says.agg (.cons (Says.int rfl) (.cons (Says.int rfl) .nil)))
  by_cases h13 : t.data.toList = [43]
  · obtain rfl := ba_eq' h13; exact (Sadd_sim a b c d).says (Says.agg (.cons (Says.int rfl) (.cons (Says.int rfl) .nil)))
  by_cases h14 : t.data.toList = [45]
  · obtain rfl := ba_eq' h14; exact (Ssub_sim a b c d).says (Says.agg (.cons (Says.int rfl) (.cons (Says.int rfl) .nil)))
  by_cases h15 : t.data.toList = [42]
  · obtain rfl := ba_eq' h15; exact (Smul_sim a b c d).says (Says.agg (.cons (Says.int rfl) (.cons (Says.int rfl) .nil)))
  by_cases h16 : t.data.toList = [47]
  · obtain rfl := ba_eq' h16; exact (Squo_sim a b c d).says (Says.agg (.cons (Says.int rfl) (.cons (Says.int rfl) .nil)))
  by_cases h17 : t.data.toList = [37]
  · obtain rfl := ba_eq' h17; exact (Srem_sim a b c d).says (Says.agg (.cons (Says.int rfl) (.cons (Says.int rfl) .nil)))
  exact (SB_none t a b c d h0 h1 h2 h3 h4 h5 h6 h7 h8 h9 h10 h11 h12 h13 h14 h15 h16 h17).says (Says.agg (.cons (Says.int (by simp only [SB_0, ne_data h0, ne_data h1, ne_data h2, ne_data h3, ne_data h4, ne_data h5, ne_data h6, ne_data h7, ne_data h8, ne_data h9, ne_data h10, ne_data h11, ne_data h12, ne_data h13, ne_data h14, ne_data h15, ne_data h16, ne_data h17, cond_false])) (.cons (Says.int (by simp only [SB_1, ne_data h0, ne_data h1, ne_data h2, ne_data h3, ne_data h4, ne_data h5, ne_data h6, ne_data h7, ne_data h8, ne_data h9, ne_data h10, ne_data h11, ne_data h12, ne_data h13, ne_data h14, ne_data h15, ne_data h16, ne_data h17, cond_false])) .nil)))
def o_WB : Orc := orcAdd 38 (fun | [.str true t, .int true .i64 a, .int true .i64 b] => some (.tup [.int true .i64 (WB_0 t a b), .int true .i64 (WB_1 t a b)]) | _ => none) o_Squo
theorem o_WB_ok : OrcOk prog o_WB := orcAdd_ok o_Squo_ok fun a v h => by
  try dsimp only at h
  split at h
  · rename_i t a b; cases h; exact WB_sim t a b
  · cases h
def o_LV : Orc := orcAdd 45 (fun | [.str true t] => some (.int true .i64 (LV t)) | _ => none) o_WB
theorem o_LV_ok : OrcOk prog o_LV := orcAdd_ok o_WB_ok fun a v h => by
  try dsimp only at h
  split at h
  · rename_i t; cases h; exact LV_sim t
  · cases h
def o_SB : Orc := orcAdd 15 (fun | [.str true t, .agg [.int true .i64 a, .int true .i64 b], .agg [.int true .i64 c, .int true .i64 d]] => some (.agg [.int true .i64 (SB_0 t a b c d), .int true .i64 (SB_1 t a b c d)]) | _ => none) o_LV
theorem o_SB_ok : OrcOk prog o_SB := orcAdd_ok o_LV_ok fun a v h => by
  try dsimp only at h
  split at h
  · rename_i t a b c d; cases h; exact SB_sim t a b c d
  · cases h
end S
