import Derived.Test.YtobomgckeoomkaaSpLSuch
import Derived.Test.YtobomgckeoomkaaSpP
set_option linter.unusedVariables false
set_option linter.unusedSimpArgs false
open Go Go.Im
namespace S
theorem wbit_eq (x : Bool) : wbit x = bif x then 1 else 0 := rfl
theorem wbit_ne {x : Bool} : (wbit x == 0) = !x := by cases x <;> rfl
theorem such_lt {a b c d p q : Int} (h : a ≤ b) (h' : c ≤ d) (ra : Rg a) (rb : Rg b) (rc : Rg c) (rd : Rg d) (hp : a ≤ p ∧ p ≤ b) (hq : c ≤ q ∧ q ≤ d) : In (Slt_0 a b c d) (Slt_1 a b c d) a b = true ∧ (p < q → Has (Slt_0 a b c d) (Slt_1 a b c d) p = true) := by
  simp only [Rg] at *
  simp only [Slt_0, Slt_1, bif_f (empF.2 h), bif_f (empF.2 h'), of0, of1, Bool.cond_eq_ite, beq_iff_eq, inI, hasI, if_true, wI]
  constructor
  · (repeat' split) <;> omega
  · intro hh; (repeat' split) <;> omega
theorem such_le {a b c d p q : Int} (h : a ≤ b) (h' : c ≤ d) (hp : a ≤ p ∧ p ≤ b) (hq : c ≤ q ∧ q ≤ d) : In (Sle_0 a b c d) (Sle_1 a b c d) a b = true ∧ (p ≤ q → Has (Sle_0 a b c d) (Sle_1 a b c d) p = true) := by
  simp only [Sle_0, Sle_1, bif_f (empF.2 h), bif_f (empF.2 h'), of0, of1, Bool.cond_eq_ite, beq_iff_eq, inI, hasI, if_true, wI]
  constructor
  · (repeat' split) <;> omega
  · intro hh; (repeat' split) <;> omega
theorem such_gt {a b c d p q : Int} (h : a ≤ b) (h' : c ≤ d) (ra : Rg a) (rb : Rg b) (rc : Rg c) (rd : Rg d) (hp : a ≤ p ∧ p ≤ b) (hq : c ≤ q ∧ q ≤ d) : In (Sgt_0 a b c d) (Sgt_1 a b c d) a b = true ∧ (p > q → Has (Sgt_0 a b c d) (Sgt_1 a b c d) p = true) := by
  simp only [Rg] at *
  simp only [Sgt_0, Sgt_1, bif_f (empF.2 h), bif_f (empF.2 h'), of0, of1, Bool.cond_eq_ite, beq_iff_eq, inI, hasI, Bool.false_eq_true, if_false, wI]
  constructor
  · (repeat' split) <;> omega
  · intro hh; (repeat' split) <;> omega
theorem such_ge {a b c d p q : Int} (h : a ≤ b) (h' : c ≤ d) (hp : a ≤ p ∧ p ≤ b) (hq : c ≤ q ∧ q ≤ d) : In (Sge_0 a b c d) (Sge_1 a b c d) a b = true ∧ (p ≥ q → Has (Sge_0 a b c d) (Sge_1 a b c d) p = true) := by
  simp only [Sge_0, Sge_1, bif_f (empF.2 h), bif_f (empF.2 h'), of0, of1, Bool.cond_eq_ite, beq_iff_eq, inI, hasI, Bool.false_eq_true, if_false, wI]
  constructor
  · (repeat' split) <;> omega
  · intro hh; (repeat' split) <;> omega
theorem such_eq {a b c d p q : Int} (h : a ≤ b) (h' : c ≤ d) (hp : a ≤ p ∧ p ≤ b) (hq : c ≤ q ∧ q ≤ d) : In (Seq_0 a b c d) (Seq_1 a b c d) a b = true ∧ (p = q → Has (Seq_0 a b c d) (Seq_1 a b c d) p = true) := by
  simp only [Seq_0, Seq_1, bif_f (empF.2 h), bif_f (empF.2 h'), meet0, meet1, inI, hasI]
  constructor
  · (repeat' split) <;> omega
  · intro hh; (repeat' split) <;> omega
theorem such_ne {a b c d p q : Int} (h : a ≤ b) (h' : c ≤ d) (ra : Rg a) (rb : Rg b) (hp : a ≤ p ∧ p ≤ b) (hq : c ≤ q ∧ q ≤ d) : In (Sne_0 a b c d) (Sne_1 a b c d) a b = true ∧ (p ≠ q → Has (Sne_0 a b c d) (Sne_1 a b c d) p = true) := by
  simp only [Rg] at *
  by_cases e : c = d
  · subst e
    have o : One_0 c c = c := one0 rfl
    simp only [Sne_0, Sne_1, bif_f (empF.2 h), bif_f (empF.2 h'), one1, o, Bool.cond_eq_ite, beq_iff_eq, inI, hasI, wI, decide_true, Bool.not_true, Bool.false_eq_true, if_false]
    constructor
    · (repeat' split) <;> omega
    · intro hh; (repeat' split) <;> omega
  · simp only [Sne_0, Sne_1, bif_f (empF.2 h), bif_f (empF.2 h'), one1, decide_eq_false e, Bool.not_false, cond_true, inI, hasI]
    exact ⟨by omega, fun _ => hp⟩
theorem such_empty (a b c d : Int) (h : b < a ∨ d < c) : (Slt_0 a b c d = 1 ∧ Slt_1 a b c d = 0) ∧ (Sle_0 a b c d = 1 ∧ Sle_1 a b c d = 0) ∧ (Sgt_0 a b c d = 1 ∧ Sgt_1 a b c d = 0) ∧ (Sge_0 a b c d = 1 ∧ Sge_1 a b c d = 0) ∧ (Seq_0 a b c d = 1 ∧ Seq_1 a b c d = 0) ∧ (Sne_0 a b c d = 1 ∧ Sne_1 a b c d = 0) := by
  simp only [Slt_0, Sle_0, Sgt_0, Sge_0, Seq_0, Sne_0, Slt_1, Sle_1, Sgt_1, Sge_1, Seq_1, Sne_1]
  by_cases h0 : b < a
  · simp [bif_t (empT.2 h0)]
  · have h1 : d < c := by omega
    simp [bif_f (empF.2 (show a ≤ b by omega)), bif_t (empT.2 h1)]
theorem wb_lt (p q : Int) : WB_0 ⟨#[60]⟩ p q = wbit (decide (p < q)) := rfl
theorem wb_le (p q : Int) : WB_0 ⟨#[60, 61]⟩ p q = wbit (decide (p ≤ q)) := rfl
theorem wb_gt (p q : Int) : WB_0 ⟨#[62]⟩ p q = wbit (decide (p > q)) := rfl
theorem wb_ge (p q : Int) : WB_0 ⟨#[62, 61]⟩ p q = wbit (decide (p ≥ q)) := rfl
theorem wb_eq (p q : Int) : WB_0 ⟨#[61, 61]⟩ p q = wbit (p == q) := rfl
theorem wb_ne (p q : Int) : WB_0 ⟨#[33, 61]⟩ p q = wbit (p != q) := rfl
/-- One comparison's part of the law. -/
theorem such_part {e1 e2 ex w i h : Bool} (hx : e1 = true ∨ e2 = true → ex = true) (hi : e1 = false → e2 = false → i = true) (hh : e1 = false → e2 = false → w = false → h = true) :
    (bif e1 then ex else (bif e2 then ex else (bif w then i else (bif h then i else false)))) = true := by
  cases e1 <;> cases e2 <;> cases w <;> simp_all
theorem such_true (a b : Int) (c : Bool) (d e f g : Int) (h : Bool) (i j k l m : Int) (ha : Rg a) (hb : Rg b) (hf : Rg f) (hg : Rg g) (hl : 0 ≤ l ∧ l ≤ 18446744073709551615) (hm : 0 ≤ m ∧ m ≤ 18446744073709551615) : LSuch a b c d e f g h i j k l m = true := by
  obtain ⟨rA, rB⟩ := range_rg (c := c) (d := d) (e := e) ha hb
  obtain ⟨rC, rD⟩ := range_rg (c := h) (d := i) (e := j) hf hg
  unfold LSuch
  generalize rangespan_0 a b c d e = A at *
  generalize rangespan_1 a b c d e = B at *
  generalize rangespan_0 f g h i j = C at *
  generalize rangespan_1 f g h i j = D at *
  have hP : Empty A B = false → A ≤ pick A B l ∧ pick A B l ≤ B := fun x => pick_has (empF.1 x) rA rB hl.1 hl.2
  have hQ : Empty C D = false → C ≤ pick C D m ∧ pick C D m ≤ D := fun x => pick_has (empF.1 x) rC rD hm.1 hm.2
  generalize pick A B l = P at *
  generalize pick C D m = Q at *
  have em : Empty A B = true ∨ Empty C D = true → _ := fun x => such_empty A B C D (by rw [empT, empT] at x; exact x)
  have e10 : Empty 1 0 = true := rfl
  have q1 : (bif Empty A B then (Empty (Slt_0 A B C D) (Slt_1 A B C D)) else (bif Empty C D then (Empty (Slt_0 A B C D) (Slt_1 A B C D)) else (bif WB_0 ⟨#[60]⟩ P Q == 0 then (In (Slt_0 A B C D) (Slt_1 A B C D) A B) else (bif Has (Slt_0 A B C D) (Slt_1 A B C D) P then (In (Slt_0 A B C D) (Slt_1 A B C D) A B) else (false))))) = true := by
    refine such_part (fun x => by rw [(em x).1.1, (em x).1.2, e10]) (fun x y => (such_lt (empF.1 x) (empF.1 y) rA rB rC rD (hP x) (hQ y)).1) fun x y w => (such_lt (empF.1 x) (empF.1 y) rA rB rC rD (hP x) (hQ y)).2 ?_
    rw [wb_lt, wbit_ne] at w; simpa using w
  have q2 : (bif Empty A B then (Empty (Sle_0 A B C D) (Sle_1 A B C D)) else (bif Empty C D then (Empty (Sle_0 A B C D) (Sle_1 A B C D)) else (bif WB_0 ⟨#[60, 61]⟩ P Q == 0 then (In (Sle_0 A B C D) (Sle_1 A B C D) A B) else (bif Has (Sle_0 A B C D) (Sle_1 A B C D) P then (In (Sle_0 A B C D) (Sle_1 A B C D) A B) else (false))))) = true := by
    refine such_part (fun x => by rw [(em x).2.1.1, (em x).2.1.2, e10]) (fun x y => (such_le (empF.1 x) (empF.1 y) (hP x) (hQ y)).1) fun x y w => (such_le (empF.1 x) (empF.1 y) (hP x) (hQ y)).2 ?_
    rw [wb_le, wbit_ne] at w; simpa using w
  have q3 : (bif Empty A B then (Empty (Sgt_0 A B C D) (Sgt_1 A B C D)) else (bif Empty C D then (Empty (Sgt_0 A B C D) (Sgt_1 A B C D)) else (bif WB_0 ⟨#[62]⟩ P Q == 0 then (In (Sgt_0 A B C D) (Sgt_1 A B C D) A B) else (bif Has (Sgt_0 A B C D) (Sgt_1 A B C D) P then (In (Sgt_0 A B C D) (Sgt_1 A B C D) A B) else (false))))) = true := by
    refine such_part (fun x => by rw [(em x).2.2.1.1, (em x).2.2.1.2, e10]) (fun x y => (such_gt (empF.1 x) (empF.1 y) rA rB rC rD (hP x) (hQ y)).1) fun x y w => (such_gt (empF.1 x) (empF.1 y) rA rB rC rD (hP x) (hQ y)).2 ?_
    rw [wb_gt, wbit_ne] at w; simpa using w
  have q4 : (bif Empty A B then (Empty (Sge_0 A B C D) (Sge_1 A B C D)) else (bif Empty C D then (Empty (Sge_0 A B C D) (Sge_1 A B C D)) else (bif WB_0 ⟨#[62, 61]⟩ P Q == 0 then (In (Sge_0 A B C D) (Sge_1 A B C D) A B) else (bif Has (Sge_0 A B C D) (Sge_1 A B C D) P then (In (Sge_0 A B C D) (Sge_1 A B C D) A B) else (false))))) = true := by
    refine such_part (fun x => by rw [(em x).2.2.2.1.1, (em x).2.2.2.1.2, e10]) (fun x y => (such_ge (empF.1 x) (empF.1 y) (hP x) (hQ y)).1) fun x y w => (such_ge (empF.1 x) (empF.1 y) (hP x) (hQ y)).2 ?_
    rw [wb_ge, wbit_ne] at w; simpa using w
  have q5 : (bif Empty A B then (Empty (Seq_0 A B C D) (Seq_1 A B C D)) else (bif Empty C D then (Empty (Seq_0 A B C D) (Seq_1 A B C D)) else (bif WB_0 ⟨#[61, 61]⟩ P Q == 0 then (In (Seq_0 A B C D) (Seq_1 A B C D) A B) else (bif Has (Seq_0 A B C D) (Seq_1 A B C D) P then (In (Seq_0 A B C D) (Seq_1 A B C D) A B) else (false))))) = true := by
    refine such_part (fun x => by rw [(em x).2.2.2.2.1.1, (em x).2.2.2.2.1.2, e10]) (fun x y => (such_eq (empF.1 x) (empF.1 y) (hP x) (hQ y)).1) fun x y w => (such_eq (empF.1 x) (empF.1 y) (hP x) (hQ y)).2 ?_
    rw [wb_eq, wbit_ne] at w; simpa using w
  have q6 : (bif Empty A B then (Empty (Sne_0 A B C D) (Sne_1 A B C D)) else (bif Empty C D then (Empty (Sne_0 A B C D) (Sne_1 A B C D)) else (bif WB_0 ⟨#[33, 61]⟩ P Q == 0 then (In (Sne_0 A B C D) (Sne_1 A B C D) A B) else (bif Has (Sne_0 A B C D) (Sne_1 A B C D) P then (In (Sne_0 A B C D) (Sne_1 A B C D) A B) else (false))))) = true := by
    refine such_part (fun x => by rw [(em x).2.2.2.2.2.1, (em x).2.2.2.2.2.2, e10]) (fun x y => (such_ne (empF.1 x) (empF.1 y) rA rB (hP x) (hQ y)).1) fun x y w => (such_ne (empF.1 x) (empF.1 y) rA rB (hP x) (hQ y)).2 ?_
    rw [wb_ne, wbit_ne] at w; simpa using w
  rw [q1, q2, q3, q4, q5, q6]
  simp
end S
theorem S.such_says (a b : Int) (c : Bool) (d e f g : Int) (h : Bool) (i j k l m : Int) : Sim Go.Proofs.Try.prog 4 [.agg [.int true .i64 a, .int true .i64 b, .bool true c, .int true .u8 d, .int true .u8 e], .agg [.int true .i64 f, .int true .i64 g, .bool true h, .int true .u8 i, .int true .u8 j], .int true .u8 k, .int true .u64 l, .int true .u64 m] [] (.bool true true) [] :=
  Sim.rng fun hr => (S.LSuch_sim a b c d e f g h i j k l m).says (Says.bool (by
    simp only [rngL, rngV, kLo, kHi] at hr
    exact S.such_true a b c d e f g h i j k l m (by simp only [S.Rg]; omega) (by simp only [S.Rg]; omega) (by simp only [S.Rg]; omega) (by simp only [S.Rg]; omega) (by omega) (by omega)))
