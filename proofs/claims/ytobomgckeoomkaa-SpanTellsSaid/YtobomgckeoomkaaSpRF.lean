/- The program's answers are the reference's: plainly. -/
import Derived.Test.YtobomgckeoomkaaSpRE
import Derived.Test.YtobomgckeoomkaaSpRD
set_option linter.unusedVariables false
set_option linter.unusedSimpArgs false
set_option maxRecDepth 100000
open Go Go.Im
namespace S
theorem rEmp (a b : Int) : rEmpty a b = Empty a b := rfl
theorem rHasE (a b c : Int) : rHas a b c = Has a b c := rfl
theorem rspan0 (a b : Int) : rspan_0 a b = of_0 a b := rfl
theorem rspan1 (a b : Int) : rspan_1 a b = of_1 a b := rfl
theorem rMeet0 (a b c d : Int) : rMeet_0 a b c d = Meet_0 a b c d := rfl
theorem rMeet1 (a b c d : Int) : rMeet_1 a b c d = Meet_1 a b c d := rfl
theorem rJoin0 (a b c d : Int) : rJoin_0 a b c d = Join_0 a b c d := by
  simp only [rJoin_0, Join_0, rEmp, rspan0, if_true, Bool.false_eq_true, if_false]
  by_cases h : b < a
  · rw [bif_t (empT.2 h), bif_t (empT.2 h)]
  · by_cases h' : d < c
    · rw [bif_f (empF.2 (by omega)), bif_t (empT.2 h'), bif_f (empF.2 (by omega)), bif_t (empT.2 h')]
    · rw [bif_f (empF.2 (by omega)), bif_f (empF.2 (by omega)), bif_f (empF.2 (by omega)), bif_f (empF.2 (by omega)), of0]
      (repeat' split) <;> omega
theorem rJoin1 (a b c d : Int) : rJoin_1 a b c d = Join_1 a b c d := by
  simp only [rJoin_1, Join_1, rEmp, rspan1, if_true, Bool.false_eq_true, if_false]
  by_cases h : b < a
  · rw [bif_t (empT.2 h), bif_t (empT.2 h)]
  · by_cases h' : d < c
    · rw [bif_f (empF.2 (by omega)), bif_t (empT.2 h'), bif_f (empF.2 (by omega)), bif_t (empT.2 h')]
    · rw [bif_f (empF.2 (by omega)), bif_f (empF.2 (by omega)), bif_f (empF.2 (by omega)), bif_f (empF.2 (by omega)), of1]
      (repeat' split) <;> omega
theorem rInE (a b c d : Int) : rIn a b c d = In a b c d := by
  simp only [rIn, In, rEmp, rHasE, hasD]
  by_cases h : b < a
  · rw [bif_t (empT.2 h), bif_t (empT.2 h)]
  · rw [bif_f (empF.2 (by omega)), bif_f (empF.2 (by omega))]
    by_cases h1 : c ≤ a <;> by_cases h2 : b ≤ d
    · rw [decide_eq_true (show c ≤ a ∧ a ≤ d by omega), decide_eq_true (show c ≤ b ∧ b ≤ d by omega), decide_eq_true h1, decide_eq_true h2]
    · rw [decide_eq_false (show ¬ (c ≤ b ∧ b ≤ d) by omega), decide_eq_false h2]; cases decide (c ≤ a ∧ a ≤ d) <;> cases decide (c ≤ a) <;> rfl
    · rw [decide_eq_false (show ¬ (c ≤ a ∧ a ≤ d) by omega), decide_eq_false h1]; rfl
    · rw [decide_eq_false (show ¬ (c ≤ a ∧ a ≤ d) by omega), decide_eq_false h1]; rfl
theorem rtold0 (x y : Bool) : rtold_0 x y = told_0 x y := by cases x <;> cases y <;> decide
theorem rtold1 (x y : Bool) : rtold_1 x y = told_1 x y := by cases x <;> cases y <;> decide
theorem rTruth0 (a b : Int) : rTruth_0 a b = Truth_0 a b := by
  by_cases h : b < a
  · rw [(truthE h).1]
    simp only [rTruth_0, rEmp, bif_t (empT.2 h)]; rfl
  · simp only [rTruth_0, rEmp, bif_f (empF.2 (show a ≤ b by omega)), rtold0, told0, rHasE, hasD, truth0 (show a ≤ b by omega), Bool.cond_eq_ite, decide_eq_true_eq]
    (repeat' split) <;> omega
theorem rTruth1 (a b : Int) : rTruth_1 a b = Truth_1 a b := by
  by_cases h : b < a
  · rw [(truthE h).2]
    simp only [rTruth_1, rEmp, bif_t (empT.2 h)]; rfl
  · simp only [rTruth_1, rEmp, bif_f (empF.2 (show a ≤ b by omega)), rtold1, told1, rHasE, hasD, truth1 (show a ≤ b by omega), Bool.cond_eq_ite, decide_eq_true_eq, if_true]
    (repeat' split) <;> omega
theorem rWiden0 {a b c d : Int} (hc : Rg c) : rWiden_0 a b c d = Widen_0 a b c d := by
  simp only [rWiden_0, Widen_0, rEmp, rInE, rJoin0]
  congr 2
  by_cases h : c < a
  · rw [decide_eq_true h]
    simp only [cond_true, Ilow, Wlow, lowsL, loR, Rg] at *
    have hm : -9223372036854775808 ≤ c := hc.1
    by_cases h1 : 1 ≤ c
    · have : 0 ≤ c := by omega
      have : -1 ≤ c := by omega
      simp [h1, IntKind.wrap, IntKind.bits, IntKind.signed]
    by_cases h2 : 0 ≤ c
    · simp [h1, h2, IntKind.wrap, IntKind.bits, IntKind.signed]
    by_cases h3 : -1 ≤ c
    · simp [h1, h2, h3, IntKind.wrap, IntKind.bits, IntKind.signed]
    by_cases h4 : -64 ≤ c
    · simp [h1, h2, h3, h4, IntKind.wrap, IntKind.bits, IntKind.signed]
    by_cases h5 : -1024 ≤ c
    · simp [h1, h2, h3, h4, h5, IntKind.wrap, IntKind.bits, IntKind.signed]
    by_cases h6 : -65536 ≤ c
    · simp [h1, h2, h3, h4, h5, h6, IntKind.wrap, IntKind.bits, IntKind.signed]
    · simp [h1, h2, h3, h4, h5, h6, hm, IntKind.wrap, IntKind.bits, IntKind.signed]
  · rw [decide_eq_false h]; rfl
theorem rWiden1 {a b c d : Int} (hd : Rg d) : rWiden_1 a b c d = Widen_1 a b c d := by
  simp only [rWiden_1, Widen_1, rEmp, rInE, rJoin1]
  congr 2
  by_cases h : d > b
  · rw [decide_eq_true h]
    simp only [cond_true, Ihigh, Whigh, highsL, hiR, ge_iff_le, Rg] at *
    have hm : d ≤ 9223372036854775807 := hd.2
    by_cases h1 : d ≤ -1
    · simp [h1, IntKind.wrap, IntKind.bits, IntKind.signed]
    by_cases h2 : d ≤ 0
    · simp [h1, h2, IntKind.wrap, IntKind.bits, IntKind.signed]
    by_cases h3 : d ≤ 1
    · simp [h1, h2, h3, IntKind.wrap, IntKind.bits, IntKind.signed]
    by_cases h4 : d ≤ 64
    · simp [h1, h2, h3, h4, IntKind.wrap, IntKind.bits, IntKind.signed]
    by_cases h5 : d ≤ 1024
    · simp [h1, h2, h3, h4, h5, IntKind.wrap, IntKind.bits, IntKind.signed]
    by_cases h6 : d ≤ 65536
    · simp [h1, h2, h3, h4, h5, h6, IntKind.wrap, IntKind.bits, IntKind.signed]
    · simp [h1, h2, h3, h4, h5, h6, hm, IntKind.wrap, IntKind.bits, IntKind.signed]
  · rw [decide_eq_false h]; rfl
theorem rTrapsE (t : ByteArray) (a b c d : Int) : rTraps t a b c d = Traps t a b c d := by
  have e : ∀ z : Int, (bif decide (c < 0) then (2 : Int) else (bif decide (d > 63) then 2 else z)) = bif (bif decide (c < 0) then true else decide (d > 63)) then 2 else z := by
    intro z; cases decide (c < 0) <;> rfl
  simp only [rTraps, Traps, rEmp, rHasE, e]
  by_cases h : b < a
  · rw [bif_t (empT.2 h), bif_t (empT.2 h)]
  · by_cases h' : d < c
    · rw [bif_f (empF.2 (by omega)), bif_t (empT.2 h'), bif_f (empF.2 (by omega)), bif_t (empT.2 h')]
    · have hi : (bif decide (c < 0) then true else decide (d > 63)) = !In c d 0 63 := by
        have : In c d 0 63 = decide (0 ≤ c ∧ d ≤ 63) := by
          rw [Bool.eq_iff_iff, inI]; simp; omega
        rw [this]
        by_cases h1 : c < 0 <;> by_cases h2 : d > 63 <;> simp [h1, h2] <;> omega
      rw [hi]
theorem farV {n : Int} (h : Rg n) : far n = if n = 0 then 0 else (n.natAbs : Int) - 1 := by
  simp only [Rg] at h
  simp only [far, Bool.cond_eq_ite, decide_eq_true_eq, Bool.false_eq_true, if_false, wI]
  (repeat' split) <;> omega
theorem rrestE {a b c d : Int} (ra : Rg a) (rb : Rg b) (rc : Rg c) (rd : Rg d) : rest_0 a b c d = rrest_0 a b c d ∧ rest_1 a b c d = rrest_1 a b c d := by
  have hz : (c == 0 && (d == 0 && true)) = decide (c = 0 ∧ d = 0) := by
    by_cases h1 : c = 0 <;> by_cases h2 : d = 0 <;> simp [h1, h2]
  simp only [rest_0, rest_1, rrest_0, rrest_1, size_abs rc, size_abs rd, farV rc, farV rd, hz, Bool.false_eq_true, if_false, if_true, Bool.cond_eq_ite, beq_iff_eq, decide_eq_true_eq]
  generalize hm : (if (d.natAbs : Int) > (c.natAbs : Int) then (d.natAbs : Int) else (c.natAbs : Int)) = m
  have hm1 : m = max (c.natAbs : Int) (d.natAbs : Int) := by rw [← hm]; split <;> omega
  have hm2 : m ≤ 9223372036854775808 := by simp only [Rg] at *; omega
  by_cases h0 : c = 0 ∧ d = 0
  · have : m = 0 := by omega
    rw [if_pos this, if_pos this, if_pos h0, if_pos h0]; exact ⟨rfl, rfl⟩
  · have hne : ¬ m = 0 := by omega
    rw [if_neg hne, if_neg hne, if_neg h0, if_neg h0]
    have e1 : IntKind.wrap .u64 (m - 1) = m - 1 := wU_id (by omega) (by omega)
    rw [e1]
    have e2 : IntKind.wrap .i64 (m - 1) = m - 1 := wI_id (by omega) (by omega)
    rw [e2]
    have e3 : IntKind.wrap .i64 (0 - (m - 1)) = 0 - (m - 1) := wI_id (by omega) (by omega)
    rw [e3]
    have e4 : (if (if d = 0 then (0 : Int) else (d.natAbs : Int) - 1) > (if c = 0 then (0 : Int) else (c.natAbs : Int) - 1) then (if d = 0 then (0 : Int) else (d.natAbs : Int) - 1) else (if c = 0 then (0 : Int) else (c.natAbs : Int) - 1)) = m - 1 := by
      (repeat' split) <;> omega
    simp only [e4, e3]
    have j1 : (if 0 < a then (0 : Int) else a) = min a 0 := by split <;> omega
    have j2 : (if 0 > b then (0 : Int) else b) = max b 0 := by split <;> omega
    rw [j1, j2]
    constructor
    · (repeat' split) <;> omega
    · (repeat' split) <;> omega
theorem lvmulE {a b : Int} (ra : Rg a) (rb : Rg b) : lvmul a b = !nmul_1 a b := by
  have hn := nmul1 ra rb
  have key : lvmul a b = true ↔ ¬ Rg (a * b) := by
    have em : rBmul_0 a b = IntKind.wrap .i64 (a * b) := rfl
    simp only [lvmul, em, Bool.cond_eq_ite, beq_iff_eq, bne_iff_ne, ne_eq]
    by_cases h0 : a = 0
    · subst h0; simp [Rg]
    by_cases h0' : b = 0
    · subst h0'; simp [Rg]
    rw [if_neg h0, if_neg h0']
    by_cases h1 : a = -1
    · subst h1
      rw [if_pos rfl, if_neg (by omega), Int.neg_mul, Int.one_mul]
      simp only [Rg] at *; simp; omega
    rw [if_neg h1]
    by_cases h1' : b = -1
    · subst h1'
      rw [if_pos rfl, Int.mul_neg, Int.mul_one]
      simp only [Rg] at *
      split
      · simp; omega
      · simp; omega
    rw [if_neg h1']
    by_cases hr : Rg (a * b)
    · have e1 : IntKind.wrap .i64 (a * b) = a * b := wI_id hr.1 hr.2
      have e2 : (a * b).tdiv b = a := Int.mul_tdiv_cancel a h0'
      rw [e1, e2, if_neg (by rw [wI_id ra.1 ra.2]; simp)]
      have f1 : ∀ {x y : Int}, Rg (x * y) → x = -9223372036854775808 → y ≠ 0 → y ≠ -1 → y = 1 := by
        intro x y h hx hy hy'; subst hx
        simp only [Rg] at h
        omega
      by_cases ha : a = -9223372036854775808
      · have hb1 := f1 hr ha h0' h1'
        rw [if_pos ha, if_neg (by omega), if_neg (by omega)]; simp [hr]
      · rw [if_neg ha]
        by_cases hb : b = -9223372036854775808
        · have ha1 := f1 (by rw [Int.mul_comm]; exact hr) hb h0 h1
          rw [if_pos hb]; simp [hr, ha1]; exact rb
        · rw [if_neg hb]; simp [hr]
    · simp only [hr, not_false_eq_true, iff_true]
      by_cases hq : IntKind.wrap .i64 ((IntKind.wrap .i64 (a * b)).tdiv b) = a
      · exfalso
        have rn := wI_rg (a * b)
        have hcong : ∃ k : Int, IntKind.wrap .i64 (a * b) = a * b + k * 18446744073709551616 := ⟨-((a * b + 9223372036854775808) / 18446744073709551616), by rw [wI]; omega⟩
        generalize IntKind.wrap .i64 (a * b) = n at *
        obtain ⟨k, hk⟩ := hcong
        have hb1 : b ≠ 1 := by intro e; subst e; apply hr; rw [Int.mul_one]; exact ra
        have hab : 2 ≤ b.natAbs := by omega
        have hd : (n.tdiv b).natAbs = n.natAbs / b.natAbs := Int.natAbs_tdiv n b
        have hd2 : n.natAbs / b.natAbs ≤ 9223372036854775808 / 2 := Nat.le_trans (Nat.div_le_div_left hab (by decide)) (Nat.div_le_div_right (by simp only [Rg] at rn; omega))
        have e1 : IntKind.wrap .i64 (n.tdiv b) = n.tdiv b := wI_id (by omega) (by omega)
        rw [e1] at hq
        have hm := Int.mul_tdiv_add_tmod n b
        rw [hq] at hm
        obtain ⟨t1, t2, t3, t4⟩ := Q.tmod_facts n b h0'
        have hcomm : b * a = a * b := Int.mul_comm b a
        have hrem : n.tmod b = k * 18446744073709551616 := by omega
        have : k = 0 := by simp only [Rg] at rb; omega
        subst this
        apply hr
        have : n = a * b := by omega
        rw [← this]; exact rn
      · rw [if_pos hq]
  rw [Bool.eq_iff_iff, key]
  cases h : nmul_1 a b
  · simp; intro hr; rw [hn.2 hr] at h; cases h
  · simp; exact hn.1 h
theorem rj4 (n1 n2 n3 n4 : Int) : rJoin_0 (rJoin_0 (rJoin_0 (rJoin_0 1 0 n1 n1) (rJoin_1 1 0 n1 n1) n2 n2) (rJoin_1 (rJoin_0 1 0 n1 n1) (rJoin_1 1 0 n1 n1) n2 n2) n3 n3) (rJoin_1 (rJoin_0 (rJoin_0 1 0 n1 n1) (rJoin_1 1 0 n1 n1) n2 n2) (rJoin_1 (rJoin_0 1 0 n1 n1) (rJoin_1 1 0 n1 n1) n2 n2) n3 n3) n4 n4 = J4_0 n1 n2 n3 n4 ∧
    rJoin_1 (rJoin_0 (rJoin_0 (rJoin_0 1 0 n1 n1) (rJoin_1 1 0 n1 n1) n2 n2) (rJoin_1 (rJoin_0 1 0 n1 n1) (rJoin_1 1 0 n1 n1) n2 n2) n3 n3) (rJoin_1 (rJoin_0 (rJoin_0 1 0 n1 n1) (rJoin_1 1 0 n1 n1) n2 n2) (rJoin_1 (rJoin_0 1 0 n1 n1) (rJoin_1 1 0 n1 n1) n2 n2) n3 n3) n4 n4 = J4_1 n1 n2 n3 n4 := by
  simp only [rJoin0, rJoin1]
  exact ⟨rfl, rfl⟩
end S
