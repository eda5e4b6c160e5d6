import Derived.Test.YtobomgckeoomkaaSpF
set_option linter.unusedVariables false
set_option linter.unusedSimpArgs false
set_option maxRecDepth 100000
open Go Go.Im Go.Proofs.Try
namespace S
def q (a b : Int) : Int := IntKind.wrap .i64 (a.tdiv b)
def r (a b : Int) : Int := a.tmod b
abbrev spv (a b : Int) : V := .agg [.int true .i64 a, .int true .i64 b]
theorem div_sim (a b : Int) (hb : (b != 0) = true) : Sim prog 78 [.int true .i64 a, .int true .i64 b] [] (.tup [.int true .i64 (q a b), .bool false true]) [] :=
  sim_run (E := envC prog imA 300 {} o_Sne) (envC_ok hmixed o_Sne_ok) (ps := [.br true]) (show run _ 78 [.int true .i64 a, .int true .i64 b] [] [.br true] = some (True ∧ (b != 0) = true, V.tup [.int true .i64 (q a b), .bool false true], []) by kernel_rfl) ⟨trivial, hb⟩
theorem wdiv_sim (a b : Int) (hb : (b != 0) = true) : Sim prog 101 [.int true .i64 a, .int true .i64 b] [] (.int true .i64 (q a b)) [] :=
  sim_run (E := envC prog imA 300 {} o_Sne) (envC_ok hmixed o_Sne_ok) (ps := [.br true]) (show run _ 101 [.int true .i64 a, .int true .i64 b] [] [.br true] = some (True ∧ (b != 0) = true, .int true .i64 (q a b), []) by kernel_rfl) ⟨trivial, hb⟩
theorem wrem_sim (a b : Int) (hb : (b != 0) = true) : Sim prog 102 [.int true .i64 a, .int true .i64 b] [] (.int true .i64 (r a b)) [] :=
  sim_run (E := envC prog imA 300 {} o_Sne) (envC_ok hmixed o_Sne_ok) (ps := [.br true]) (show run _ 102 [.int true .i64 a, .int true .i64 b] [] [.br true] = some (True ∧ (b != 0) = true, .int true .i64 (r a b), []) by kernel_rfl) ⟨trivial, hb⟩
def J4_0 (a b c d : Int) : Int := S.Join_0 (S.Join_0 (S.Join_0 (S.Join_0 1 0 (S.Of_0 a) (S.Of_1 a)) (S.Join_1 1 0 (S.Of_0 a) (S.Of_1 a)) (S.Of_0 b) (S.Of_1 b)) (S.Join_1 (S.Join_0 1 0 (S.Of_0 a) (S.Of_1 a)) (S.Join_1 1 0 (S.Of_0 a) (S.Of_1 a)) (S.Of_0 b) (S.Of_1 b)) (S.Of_0 c) (S.Of_1 c)) (S.Join_1 (S.Join_0 (S.Join_0 1 0 (S.Of_0 a) (S.Of_1 a)) (S.Join_1 1 0 (S.Of_0 a) (S.Of_1 a)) (S.Of_0 b) (S.Of_1 b)) (S.Join_1 (S.Join_0 1 0 (S.Of_0 a) (S.Of_1 a)) (S.Join_1 1 0 (S.Of_0 a) (S.Of_1 a)) (S.Of_0 b) (S.Of_1 b)) (S.Of_0 c) (S.Of_1 c)) (S.Of_0 d) (S.Of_1 d)
def J4_1 (a b c d : Int) : Int := S.Join_1 (S.Join_0 (S.Join_0 (S.Join_0 1 0 (S.Of_0 a) (S.Of_1 a)) (S.Join_1 1 0 (S.Of_0 a) (S.Of_1 a)) (S.Of_0 b) (S.Of_1 b)) (S.Join_1 (S.Join_0 1 0 (S.Of_0 a) (S.Of_1 a)) (S.Join_1 1 0 (S.Of_0 a) (S.Of_1 a)) (S.Of_0 b) (S.Of_1 b)) (S.Of_0 c) (S.Of_1 c)) (S.Join_1 (S.Join_0 (S.Join_0 1 0 (S.Of_0 a) (S.Of_1 a)) (S.Join_1 1 0 (S.Of_0 a) (S.Of_1 a)) (S.Of_0 b) (S.Of_1 b)) (S.Join_1 (S.Join_0 1 0 (S.Of_0 a) (S.Of_1 a)) (S.Join_1 1 0 (S.Of_0 a) (S.Of_1 a)) (S.Of_0 b) (S.Of_1 b)) (S.Of_0 c) (S.Of_1 c)) (S.Of_0 d) (S.Of_1 d)
theorem ediv_sim (a b c d : Int) (hc : (c != 0) = true) (hd : (d != 0) = true) : Sim prog 46 [spv a b, spv c d, .fn (.func 78) [] []] [] (.tup [.agg [.int true .i64 (J4_0 (q a c) (q a d) (q b c) (q b d)), .int true .i64 (J4_1 (q a c) (q a d) (q b c) (q b d))], .bool true true]) [] := by
  let rv (x y : Int) : Ev := .res 78 (.tup [.int true .i64 (q x y), .bool false true]) []
  let sm (x y : Int) : Prop := Sim prog 78 [.int true .i64 x, .int true .i64 y] [] (.tup [.int true .i64 (q x y), .bool false true]) []
  exact (sim_run (E := envC prog imA 300 {} o_Sne) (envC_ok hmixed o_Sne_ok) (ps := [rv a c, rv a d, rv b c, rv b d])
    (show run _ 46 [spv a b, spv c d, .fn (.func 78) [] []] [] [rv a c, rv a d, rv b c, rv b d] = some ((((True ∧ sm a c) ∧ sm a d) ∧ sm b c) ∧ sm b d, V.tup [.agg [.int true .i64 (J4_0 (q a c) (q a d) (q b c) (q b d)), .int true .i64 (J4_1 (q a c) (q a d) (q b c) (q b d))], .bool false true], []) by kernel_rfl)
    ⟨⟨⟨⟨trivial, div_sim a c hc⟩, div_sim a d hd⟩, div_sim b c hc⟩, div_sim b d hd⟩).says (Says.tup (.cons (Says.refl _) (.cons (Says.bool rfl) .nil)))
def quot_0 (a b c d : Int) : Int := bif Empty c d then 1 else bif (bif Has a b (-9223372036854775808) then Has c d (-1) else false) then -9223372036854775808 else J4_0 (q a c) (q a d) (q b c) (q b d)
def quot_1 (a b c d : Int) : Int := bif Empty c d then 0 else bif (bif Has a b (-9223372036854775808) then Has c d (-1) else false) then 9223372036854775807 else J4_1 (q a c) (q a d) (q b c) (q b d)
theorem quot_sim (a b c d : Int) (h : Empty c d = false → (c != 0) = true ∧ (d != 0) = true) : Sim prog 50 [spv a b, spv c d] [] (.agg [.int true .i64 (quot_0 a b c d), .int true .i64 (quot_1 a b c d)]) [] := by
  let E := envC prog imA 300 {} o_Sne
  have hE : EnvOk E := envC_ok hmixed o_Sne_ok
  let rv : Ev := .res 46 (.tup [.agg [.int true .i64 (J4_0 (q a c) (q a d) (q b c) (q b d)), .int true .i64 (J4_1 (q a c) (q a d) (q b c) (q b d))], .bool true true]) []
  let sm : Prop := Sim prog 46 [spv a b, spv c d, .fn (.func 78) [] []] [] (.tup [.agg [.int true .i64 (J4_0 (q a c) (q a d) (q b c) (q b d)), .int true .i64 (J4_1 (q a c) (q a d) (q b c) (q b d))], .bool true true]) []
  rcases Bool.eq_false_or_eq_true (Empty c d) with h0 | h0
  · exact (sim_run (E := E) hE (ps := [.br true]) (show run E 50 [spv a b, spv c d] [] [.br true] = some (True ∧ Empty c d = true, .agg [.int false .i64 1, .int false .i64 0], []) by kernel_rfl) ⟨trivial, h0⟩).says (Says.agg (.cons (Says.int (by simp [quot_0, h0])) (.cons (Says.int (by simp [quot_1, h0])) .nil)))
  obtain ⟨hc, hd⟩ := h h0
  rcases Bool.eq_false_or_eq_true (Has a b (-9223372036854775808)) with h1 | h1
  · rcases Bool.eq_false_or_eq_true (Has c d (-1)) with h2 | h2
    · exact (sim_run (E := E) hE (ps := [.br false, .br true, .br true]) (show run E 50 [spv a b, spv c d] [] [.br false, .br true, .br true] = some (((True ∧ Empty c d = false) ∧ Has a b (-9223372036854775808) = true) ∧ Has c d (-1) = true, .agg [.int false .i64 (-9223372036854775808), .int false .i64 9223372036854775807], []) by kernel_rfl) ⟨⟨⟨trivial, h0⟩, h1⟩, h2⟩).says (Says.agg (.cons (Says.int (by simp [quot_0, h0, h1, h2])) (.cons (Says.int (by simp [quot_1, h0, h1, h2])) .nil)))
    · exact (sim_run (E := E) hE (ps := [.br false, .br true, .br false, rv]) (show run E 50 [spv a b, spv c d] [] [.br false, .br true, .br false, rv] = some ((((True ∧ Empty c d = false) ∧ Has a b (-9223372036854775808) = true) ∧ Has c d (-1) = false) ∧ sm, .agg [.int true .i64 (J4_0 (q a c) (q a d) (q b c) (q b d)), .int true .i64 (J4_1 (q a c) (q a d) (q b c) (q b d))], []) by kernel_rfl) ⟨⟨⟨⟨trivial, h0⟩, h1⟩, h2⟩, ediv_sim a b c d hc hd⟩).says (Says.agg (.cons (Says.int (by simp [quot_0, h0, h1, h2])) (.cons (Says.int (by simp [quot_1, h0, h1, h2])) .nil)))
  · exact (sim_run (E := E) hE (ps := [.br false, .br false, rv]) (show run E 50 [spv a b, spv c d] [] [.br false, .br false, rv] = some (((True ∧ Empty c d = false) ∧ Has a b (-9223372036854775808) = false) ∧ sm, .agg [.int true .i64 (J4_0 (q a c) (q a d) (q b c) (q b d)), .int true .i64 (J4_1 (q a c) (q a d) (q b c) (q b d))], []) by kernel_rfl) ⟨⟨⟨trivial, h0⟩, h1⟩, ediv_sim a b c d hc hd⟩).says (Says.agg (.cons (Says.int (by simp [quot_0, h0, h1])) (.cons (Says.int (by simp [quot_1, h0, h1])) .nil)))
def Bquo_0 (a b : Int) : Int := bif b == 0 then 0 else q a b
def Bquo_1 (a b : Int) : Int := bif b == 0 then 1 else 0
def Brem_0 (a b : Int) : Int := bif b == 0 then 0 else r a b
theorem bquo_sim (a b : Int) : Sim prog 38 [.str true ⟨#[47]⟩, .int true .i64 a, .int true .i64 b] [] (.tup [.int true .i64 (Bquo_0 a b), .int true .i64 (Bquo_1 a b)]) [] := by
  refine Sim.args (args' := [.str false ⟨#[47]⟩, .int true .i64 a, .int true .i64 b]) ?_ (.cons (Says.str rfl) (.cons (Says.refl _) (.cons (Says.refl _) .nil)))
  let E := envC prog imA 300 {} o_Sne
  have hE : EnvOk E := envC_ok hmixed o_Sne_ok
  rcases Bool.eq_false_or_eq_true (b == 0) with h0 | h0
  · exact (sim_run (E := E) hE (ps := [.br true]) (show run E 38 [.str false ⟨#[47]⟩, .int true .i64 a, .int true .i64 b] [] [.br true] = some (True ∧ (b == 0) = true, .tup [.int false .i64 0, .int false .i64 1], []) by kernel_rfl) ⟨trivial, h0⟩).says (Says.tup (.cons (Says.int (by simp [Bquo_0, h0])) (.cons (Says.int (by simp [Bquo_1, h0])) .nil)))
  · exact (sim_run (E := E) hE (ps := [.br false, .res 101 (.int true .i64 (q a b)) []]) (show run E 38 [.str false ⟨#[47]⟩, .int true .i64 a, .int true .i64 b] [] [.br false, .res 101 (.int true .i64 (q a b)) []] = some ((True ∧ (b == 0) = false) ∧ Sim prog 101 [.int true .i64 a, .int true .i64 b] [] (.int true .i64 (q a b)) [], .tup [.int true .i64 (q a b), .int false .i64 0], []) by kernel_rfl) ⟨⟨trivial, h0⟩, wdiv_sim a b (by simp [bne, h0])⟩).says (Says.tup (.cons (Says.int (by simp [Bquo_0, h0])) (.cons (Says.int (by simp [Bquo_1, h0])) .nil)))
theorem brem_sim (a b : Int) : Sim prog 38 [.str true ⟨#[37]⟩, .int true .i64 a, .int true .i64 b] [] (.tup [.int true .i64 (Brem_0 a b), .int true .i64 (Bquo_1 a b)]) [] := by
  refine Sim.args (args' := [.str false ⟨#[37]⟩, .int true .i64 a, .int true .i64 b]) ?_ (.cons (Says.str rfl) (.cons (Says.refl _) (.cons (Says.refl _) .nil)))
  let E := envC prog imA 300 {} o_Sne
  have hE : EnvOk E := envC_ok hmixed o_Sne_ok
  rcases Bool.eq_false_or_eq_true (b == 0) with h0 | h0
  · exact (sim_run (E := E) hE (ps := [.br true]) (show run E 38 [.str false ⟨#[37]⟩, .int true .i64 a, .int true .i64 b] [] [.br true] = some (True ∧ (b == 0) = true, .tup [.int false .i64 0, .int false .i64 1], []) by kernel_rfl) ⟨trivial, h0⟩).says (Says.tup (.cons (Says.int (by simp [Brem_0, h0])) (.cons (Says.int (by simp [Bquo_1, h0])) .nil)))
  · exact (sim_run (E := E) hE (ps := [.br false, .res 102 (.int true .i64 (r a b)) []]) (show run E 38 [.str false ⟨#[37]⟩, .int true .i64 a, .int true .i64 b] [] [.br false, .res 102 (.int true .i64 (r a b)) []] = some ((True ∧ (b == 0) = false) ∧ Sim prog 102 [.int true .i64 a, .int true .i64 b] [] (.int true .i64 (r a b)) [], .tup [.int true .i64 (r a b), .int false .i64 0], []) by kernel_rfl) ⟨⟨trivial, h0⟩, wrem_sim a b (by simp [bne, h0])⟩).says (Says.tup (.cons (Says.int (by simp [Brem_0, h0])) (.cons (Says.int (by simp [Bquo_1, h0])) .nil)))
def o_Bquo : Orc := orcAdd 38 (fun | [.str true t0, .int true .i64 a, .int true .i64 b] => (match t0.data.toList == [47] with | true => some (.tup [.int true .i64 (Bquo_0 a b), .int true .i64 (Bquo_1 a b)]) | false => none) | _ => none) o_Sne
theorem o_Bquo_ok : OrcOk prog o_Bquo := orcAdd_ok o_Sne_ok fun a v h => by
  try dsimp only at h
  split at h
  · rename_i t0 a b
    split at h
    · rename_i ht; cases h; obtain rfl := ba_eq ht; exact bquo_sim a b
    · cases h
  · cases h
def o_Brem : Orc := orcAdd 38 (fun | [.str true t0, .int true .i64 a, .int true .i64 b] => (match t0.data.toList == [37] with | true => some (.tup [.int true .i64 (Brem_0 a b), .int true .i64 (Bquo_1 a b)]) | false => none) | _ => none) o_Bquo
theorem o_Brem_ok : OrcOk prog o_Brem := orcAdd_ok o_Bquo_ok fun a v h => by
  try dsimp only at h
  split at h
  · rename_i t0 a b
    split at h
    · rename_i ht; cases h; obtain rfl := ba_eq ht; exact brem_sim a b
    · cases h
  · cases h
end S
