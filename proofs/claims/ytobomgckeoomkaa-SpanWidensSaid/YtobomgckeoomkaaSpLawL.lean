import Derived.Test.YtobomgckeoomkaaSpB
set_option linter.unusedVariables false
set_option linter.unusedSimpArgs false
open Go Go.Im
namespace S
def Ok (x y : Int) : Prop := (x = 1 ∧ y = 0) ∨ (x ≤ y ∧ -9223372036854775808 ≤ x ∧ y ≤ 9223372036854775807)
theorem Meet_ok (p q : Int) : Ok (Meet_0 p q Top_0 Top_1) (Meet_1 p q Top_0 Top_1) := by
  simp only [Ok, Meet_0, Meet_1, of_0, of_1, Top_0, Top_1, None_0, None_1, Bool.cond_eq_ite, decide_eq_true_eq, if_true, Bool.false_eq_true, if_false]
  (repeat' split) <;> omega
theorem join_l {a b c d : Int} (ha : Ok a b) (hb : Ok c d) : In a b (Join_0 a b c d) (Join_1 a b c d) = true := by
  simp only [Ok] at ha hb
  simp only [In, Empty, Join_0, Join_1, of_0, of_1, None_0, None_1, Bool.cond_eq_ite, decide_eq_true_eq, if_true, Bool.false_eq_true, if_false]
  (repeat' split) <;> (try simp only [decide_eq_true_eq]) <;> omega
theorem join_r {a b c d : Int} (ha : Ok a b) (hb : Ok c d) : In c d (Join_0 a b c d) (Join_1 a b c d) = true := by
  simp only [Ok] at ha hb
  simp only [In, Empty, Join_0, Join_1, of_0, of_1, None_0, None_1, Bool.cond_eq_ite, decide_eq_true_eq, if_true, Bool.false_eq_true, if_false]
  (repeat' split) <;> (try simp only [decide_eq_true_eq]) <;> omega
theorem meet_l {a b c d : Int} (ha : Ok a b) (hb : Ok c d) : In (Meet_0 a b c d) (Meet_1 a b c d) a b = true := by
  simp only [Ok] at ha hb
  simp only [In, Empty, Meet_0, Meet_1, of_0, of_1, None_0, None_1, Bool.cond_eq_ite, decide_eq_true_eq, if_true, Bool.false_eq_true, if_false]
  (repeat' split) <;> (try simp only [decide_eq_true_eq]) <;> omega
theorem meet_r {a b c d : Int} (ha : Ok a b) (hb : Ok c d) : In (Meet_0 a b c d) (Meet_1 a b c d) c d = true := by
  simp only [Ok] at ha hb
  simp only [In, Empty, Meet_0, Meet_1, of_0, of_1, None_0, None_1, Bool.cond_eq_ite, decide_eq_true_eq, if_true, Bool.false_eq_true, if_false]
  (repeat' split) <;> (try simp only [decide_eq_true_eq]) <;> omega
theorem in_join {a b c d : Int} (ha : Ok a b) (hb : Ok c d) : In a b c d = is (Join_0 a b c d) (Join_1 a b c d) c d := by
  simp only [Ok] at ha hb
  rw [Bool.eq_iff_iff]
  simp only [In, is, Empty, Join_0, Join_1, of_0, of_1, None_0, None_1, Bool.cond_eq_ite, decide_eq_true_eq, if_true, Bool.false_eq_true, if_false, beq_iff_eq]
  (repeat' split) <;> (try simp only [decide_eq_true_eq, beq_iff_eq, Bool.false_eq_true, if_true, if_false, true_iff, iff_true, false_iff, iff_false, not_true, not_false_iff]) <;> omega
theorem has_iff {a b n : Int} : Has a b n = true ↔ a ≤ n ∧ n ≤ b := by
  simp only [Has, Bool.cond_eq_ite, decide_eq_true_eq]
  split <;> simp [*]
theorem has_meet {a b c d n : Int} (ha : Ok a b) (hb : Ok c d) : Has (Meet_0 a b c d) (Meet_1 a b c d) n = (bif Has a b n then Has c d n else false) := by
  simp only [Ok] at ha hb
  rw [Bool.eq_iff_iff]
  have e : ∀ x y : Bool, ((bif x then y else false) = true) = (x = true ∧ y = true) := by decide
  rw [e, has_iff, has_iff, has_iff]
  simp only [Meet_0, Meet_1, of_0, of_1, None_0, None_1, Bool.cond_eq_ite, decide_eq_true_eq, if_true, Bool.false_eq_true, if_false]
  (repeat' split) <;> omega
theorem join_comm {a b c d : Int} (ha : Ok a b) (hb : Ok c d) : is (Join_0 c d a b) (Join_1 c d a b) (Join_0 a b c d) (Join_1 a b c d) = true := by
  simp only [Ok] at ha hb
  simp only [is, Empty, Join_0, Join_1, of_0, of_1, None_0, None_1, Bool.cond_eq_ite, decide_eq_true_eq, if_true, Bool.false_eq_true, if_false, beq_iff_eq]
  (repeat' split) <;> (try simp only [decide_eq_true_eq, beq_iff_eq, Bool.false_eq_true, if_true, if_false, true_iff, iff_true, false_iff, iff_false, not_true, not_false_iff]) <;> omega
theorem meet_comm {a b c d : Int} (ha : Ok a b) (hb : Ok c d) : is (Meet_0 c d a b) (Meet_1 c d a b) (Meet_0 a b c d) (Meet_1 a b c d) = true := by
  simp only [Ok] at ha hb
  simp only [is, Empty, Meet_0, Meet_1, of_0, of_1, None_0, None_1, Bool.cond_eq_ite, decide_eq_true_eq, if_true, Bool.false_eq_true, if_false, beq_iff_eq]
  (repeat' split) <;> (try simp only [decide_eq_true_eq, beq_iff_eq, Bool.false_eq_true, if_true, if_false, true_iff, iff_true, false_iff, iff_false, not_true, not_false_iff]) <;> omega
theorem join_ok {a b c d : Int} (ha : Ok a b) (hb : Ok c d) : Ok (Join_0 a b c d) (Join_1 a b c d) := by
  simp only [Ok] at *
  simp only [Empty, Join_0, Join_1, of_0, of_1, None_0, None_1, Bool.cond_eq_ite, decide_eq_true_eq, if_true, Bool.false_eq_true, if_false]
  (repeat' split) <;> omega
theorem wlow (c d : Int) (h : -9223372036854775808 ≤ c) : (bif Int.toNat (S.Ilow c d) == 0 then (1 : Int) else (bif Int.toNat (S.Ilow c d) == 1 then (0) else (bif Int.toNat (S.Ilow c d) == 2 then (-1) else (bif Int.toNat (S.Ilow c d) == 3 then (-64) else (bif Int.toNat (S.Ilow c d) == 4 then (-1024) else (bif Int.toNat (S.Ilow c d) == 5 then (-65536) else (-9223372036854775808))))))) ≤ c := by
  simp only [Ilow, Wlow]
  by_cases h1 : 1 ≤ c
  · simp [h1, IntKind.wrap, IntKind.bits, IntKind.signed]
  by_cases h2 : 0 ≤ c
  · simp [h1, h2, IntKind.wrap, IntKind.bits, IntKind.signed]
  by_cases h3 : -1 ≤ c
  · simp [h1, h2, h3, IntKind.wrap, IntKind.bits, IntKind.signed]
  by_cases h4 : -64 ≤ c
  · simp [h1, h2, h3, h4, IntKind.wrap, IntKind.bits, IntKind.signed]
  by_cases h5 : -1024 ≤ c
  · simp [h1, h2, h3, h4, h5, IntKind.wrap, IntKind.bits, IntKind.signed]
  by_cases h6 : -65536 ≤ c
  · simp [h1, h2, h3, h4, h5, h6, IntKind.wrap, IntKind.bits, IntKind.signed]
  · simp [h1, h2, h3, h4, h5, h6, h, IntKind.wrap, IntKind.bits, IntKind.signed]
theorem whigh (c d : Int) (h : d ≤ 9223372036854775807) : d ≤ (bif Int.toNat (S.Ihigh c d) == 0 then (-1 : Int) else (bif Int.toNat (S.Ihigh c d) == 1 then (0) else (bif Int.toNat (S.Ihigh c d) == 2 then (1) else (bif Int.toNat (S.Ihigh c d) == 3 then (64) else (bif Int.toNat (S.Ihigh c d) == 4 then (1024) else (bif Int.toNat (S.Ihigh c d) == 5 then (65536) else (9223372036854775807))))))) := by
  simp only [Ihigh, Whigh, ge_iff_le]
  by_cases h1 : d ≤ -1
  · simp [h1, IntKind.wrap, IntKind.bits, IntKind.signed]
  by_cases h2 : d ≤ 0
  · simp [h1, h2, IntKind.wrap, IntKind.bits, IntKind.signed]
  by_cases h3 : d ≤ 1
  · simp [h1, h2, h3, IntKind.wrap, IntKind.bits, IntKind.signed]
  by_cases h4 : d ≤ 64
  · simp [h1, h2, h3, h4, IntKind.wrap, IntKind.bits, IntKind.signed]
  by_cases h5 : d ≤ 1024
  · simp [h1, h2, h3, h4, h5, IntKind.wrap, IntKind.bits, IntKind.signed]
  by_cases h6 : d ≤ 65536
  · simp [h1, h2, h3, h4, h5, h6, IntKind.wrap, IntKind.bits, IntKind.signed]
  · simp [h1, h2, h3, h4, h5, h6, h, IntKind.wrap, IntKind.bits, IntKind.signed]
theorem widen_in {a b c d : Int} (ha : Ok a b) (hb : Ok c d) : In (Join_0 a b c d) (Join_1 a b c d) (Widen_0 a b c d) (Widen_1 a b c d) = true := by
  simp only [Ok] at ha hb
  have hl := wlow c d (by omega)
  have hh := whigh c d (by omega)
  simp only [Widen_0, Widen_1]
  generalize (bif Int.toNat (S.Ilow c d) == 0 then (1 : Int) else (bif Int.toNat (S.Ilow c d) == 1 then (0) else (bif Int.toNat (S.Ilow c d) == 2 then (-1) else (bif Int.toNat (S.Ilow c d) == 3 then (-64) else (bif Int.toNat (S.Ilow c d) == 4 then (-1024) else (bif Int.toNat (S.Ilow c d) == 5 then (-65536) else (-9223372036854775808))))))) = x at hl ⊢
  generalize (bif Int.toNat (S.Ihigh c d) == 0 then (-1 : Int) else (bif Int.toNat (S.Ihigh c d) == 1 then (0) else (bif Int.toNat (S.Ihigh c d) == 2 then (1) else (bif Int.toNat (S.Ihigh c d) == 3 then (64) else (bif Int.toNat (S.Ihigh c d) == 4 then (1024) else (bif Int.toNat (S.Ihigh c d) == 5 then (65536) else (9223372036854775807))))))) = y at hh ⊢
  simp only [In, Empty, Join_0, Join_1, of_0, of_1, None_0, None_1, Bool.cond_eq_ite, decide_eq_true_eq, if_true, Bool.false_eq_true, if_false]
  (repeat' split) <;> (try simp only [decide_eq_true_eq, Bool.false_eq_true, if_true, if_false] at *) <;> omega
end S
