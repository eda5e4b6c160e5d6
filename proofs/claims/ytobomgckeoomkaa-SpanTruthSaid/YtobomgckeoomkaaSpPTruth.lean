import Derived.Test.YtobomgckeoomkaaSpLTruth
import Derived.Test.YtobomgckeoomkaaSpP
set_option linter.unusedVariables false
set_option linter.unusedSimpArgs false
open Go Go.Im
namespace S
theorem meet_top {a b : Int} : (Meet_0 a b (-9223372036854775808) 9223372036854775807 = 1 ∧ Meet_1 a b (-9223372036854775808) 9223372036854775807 = 0) ∨
    (Meet_0 a b (-9223372036854775808) 9223372036854775807 ≤ Meet_1 a b (-9223372036854775808) 9223372036854775807 ∧ Rg (Meet_0 a b (-9223372036854775808) 9223372036854775807) ∧ Rg (Meet_1 a b (-9223372036854775808) 9223372036854775807)) := by
  simp only [meet0, meet1, Rg]
  split <;> omega
theorem ubang {a b : Int} (h : a ≤ b) (ht : (Truth_0 a b = 0 ∨ Truth_0 a b = 1) ∧ (Truth_1 a b = 0 ∨ Truth_1 a b = 1)) : Ubang_0 a b = 1 - Truth_1 a b ∧ Ubang_1 a b = 1 - Truth_0 a b := by
  simp only [Ubang_0, Ubang_1, bif_f (empF.2 h)]
  rw [wI_id (by omega) (by omega), wI_id (by omega) (by omega)]
  exact ⟨rfl, rfl⟩
theorem unot {a b : Int} (h : a ≤ b) (ha : Rg a) (hb : Rg b) : Unot_0 a b = -1 - b ∧ Unot_1 a b = -1 - a := by
  refine ⟨?_, ?_⟩
  · simp only [Unot_0, bif_f (empF.2 h)]; exact not64 hb
  · simp only [Unot_1, bif_f (empF.2 h)]; exact not64 ha
theorem truth_true (a b : Int) (c : Bool) (d e f : Int) (hf : 0 ≤ f ∧ f ≤ 18446744073709551615) : LTruth a b c d e f = true := by
  have hm := meet_top (a := rangespan_0 a b c d e) (b := rangespan_1 a b c d e)
  unfold LTruth
  generalize Meet_0 (rangespan_0 a b c d e) (rangespan_1 a b c d e) (-9223372036854775808) 9223372036854775807 = A at *
  generalize Meet_1 (rangespan_0 a b c d e) (rangespan_1 a b c d e) (-9223372036854775808) 9223372036854775807 = B at *
  rcases hm with ⟨rfl, rfl⟩ | ⟨h, ha, hb⟩
  · rw [bif_t (show Empty 1 0 = true from rfl)]; decide +kernel
  · rw [bif_f (empF.2 h)]
    have hp := pick_has h ha hb hf.1 hf.2
    generalize pick A B f = p at *
    have t0 := truth0 h
    have t1 := truth1 h
    have tle : Truth_0 A B ≤ Truth_1 A B := by rw [t0, t1]; (repeat' split) <;> omega
    have hT : (Truth_0 A B = 0 ∨ Truth_0 A B = 1) ∧ (Truth_1 A B = 0 ∨ Truth_1 A B = 1) := by rw [t0, t1]; constructor <;> split <;> simp
    obtain ⟨u0, u1⟩ := ubang h hT
    have hT2 : (Truth_0 (Ubang_0 A B) (Ubang_1 A B) = 1 - Truth_1 A B) ∧ Truth_1 (Ubang_0 A B) (Ubang_1 A B) = 1 - Truth_0 A B := by
      rw [u0, u1]
      have e0 := truth0 (a := 1 - Truth_1 A B) (b := 1 - Truth_0 A B) (by omega)
      have e1 := truth1 (a := 1 - Truth_1 A B) (b := 1 - Truth_0 A B) (by omega)
      rw [e0, e1]
      clear e0 e1 t0 t1
      constructor <;> split <;> omega
    have hU := ubang (a := Ubang_0 A B) (b := Ubang_1 A B) (by rw [u0, u1]; omega) (by omega)
    have a1 : is (Ubang_0 (Ubang_0 A B) (Ubang_1 A B)) (Ubang_1 (Ubang_0 A B) (Ubang_1 A B)) (Truth_0 A B) (Truth_1 A B) = true := by
      rw [isI, hU.1, hU.2, hT2.1, hT2.2]; omega
    obtain ⟨n0, n1⟩ := unot h ha hb
    have ra : Rg (Unot_0 A B) := by rw [n0]; simp only [Rg] at *; omega
    have rb : Rg (Unot_1 A B) := by rw [n1]; simp only [Rg] at *; omega
    have hN := unot (a := Unot_0 A B) (b := Unot_1 A B) (by rw [n0, n1]; omega) ra rb
    have a2 : is (Unot_0 (Unot_0 A B) (Unot_1 A B)) (Unot_1 (Unot_0 A B) (Unot_1 A B)) A B = true := by
      rw [isI, hN.1, hN.2, n0, n1]; omega
    have a3 : (Has (Truth_0 A B) (Truth_1 A B) 0 == Has A B 0) = true := by
      rw [beq_iff_eq, hasD, hasD, t0, t1]
      (repeat' split) <;> simp <;> omega
    have a4 : (Has (Truth_0 A B) (Truth_1 A B) 1 == !is A B 0 0) = true := by
      rw [beq_iff_eq]
      have : is A B 0 0 = decide (A = 0 ∧ B = 0) := by rw [Bool.eq_iff_iff, isI]; simp
      rw [this, hasD, t0, t1]
      (repeat' split) <;> simp <;> omega
    have a5 : p = 0 → Has (Truth_0 A B) (Truth_1 A B) 0 = true := by
      intro h0; rw [hasI, t0, t1]; (repeat' split) <;> omega
    have a6 : p ≠ 0 → Has (Truth_0 A B) (Truth_1 A B) 1 = true := by
      intro h0; rw [hasI, t0, t1]; (repeat' split) <;> omega
    simp only [a1, a2, a3, a4, cond_true]
    by_cases h0 : p = 0
    · simp [h0, a5 h0]
    · simp [h0, a6 h0]
end S
theorem S.truth_says (a b : Int) (c : Bool) (d e f : Int) : Sim Go.Proofs.Try.prog 8 [.agg [.int true .i64 a, .int true .i64 b, .bool true c, .int true .u8 d, .int true .u8 e], .int true .u64 f] [] (.bool true true) [] :=
  Sim.rng fun hr => (S.LTruth_sim a b c d e f).says (Says.bool (S.truth_true a b c d e f (by simp only [rngL, rngV, kLo, kHi] at hr; omega)))
