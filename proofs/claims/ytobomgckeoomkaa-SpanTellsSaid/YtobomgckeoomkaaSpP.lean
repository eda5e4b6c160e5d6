/- Plain facts of spans: their ends, what they have. -/
import Derived.Test.YtobomgckeoomkaaSpH
set_option linter.unusedVariables false
set_option linter.unusedSimpArgs false
open Go Go.Im
namespace S
def Rg (x : Int) : Prop := -9223372036854775808 ≤ x ∧ x ≤ 9223372036854775807
theorem wI_rg (x : Int) : Rg (IntKind.wrap .i64 x) := by rw [wI]; simp only [Rg]; omega
theorem hasI {a b n : Int} : Has a b n = true ↔ a ≤ n ∧ n ≤ b := by
  simp only [Has, Bool.cond_eq_ite, decide_eq_true_eq]
  split <;> simp [*]
theorem hasF {a b n : Int} : Has a b n = false ↔ ¬ (a ≤ n ∧ n ≤ b) := by rw [← hasI]; simp
theorem hasD (a b n : Int) : Has a b n = decide (a ≤ n ∧ n ≤ b) := by rw [Bool.eq_iff_iff, hasI]; simp
theorem empT {a b : Int} : Empty a b = true ↔ b < a := by simp [Empty]
theorem empF {a b : Int} : Empty a b = false ↔ a ≤ b := by simp [Empty]
theorem inI {a b c d : Int} : In a b c d = true ↔ b < a ∨ (c ≤ a ∧ b ≤ d) := by
  simp only [In, Bool.cond_eq_ite, empT]
  split
  · simp [*]
  · simp [*]
theorem isI {a b c d : Int} : is a b c d = true ↔ a = c ∧ b = d := by
  simp only [is, Bool.cond_eq_ite]; split <;> simp_all
theorem one1 (a b : Int) : One_1 a b = decide (a = b) := by
  by_cases h : a = b <;> simp [One_1, h]
theorem one0 {a b : Int} (h : a = b) : One_0 a b = a := by simp [One_0, h]
theorem told0 (x y : Bool) : told_0 x y = bif x then 0 else 1 := by cases x <;> cases y <;> decide
theorem told1 (x y : Bool) : told_1 x y = bif y then 1 else 0 := by cases x <;> cases y <;> decide
theorem bif_t {α : Type} {c : Bool} {x y : α} (h : c = true) : (bif c then x else y) = x := by rw [h]; rfl
theorem bif_f {α : Type} {c : Bool} {x y : α} (h : c = false) : (bif c then x else y) = y := by rw [h]; rfl
theorem truth0 {a b : Int} (h : a ≤ b) : Truth_0 a b = if a ≤ 0 ∧ 0 ≤ b then 0 else 1 := by
  simp only [Truth_0, bif_t (show (!Empty a b) = true by simp [empF.2 h]), told0, hasD, Bool.cond_eq_ite, decide_eq_true_eq]
theorem truth1 {a b : Int} (h : a ≤ b) : Truth_1 a b = if a = 0 ∧ b = 0 then 0 else 1 := by
  simp only [Truth_1, bif_t (show (!Empty a b) = true by simp [empF.2 h]), told1, Of_0, Of_1]
  by_cases h1 : a = 0 <;> by_cases h2 : b = 0 <;> simp [h1, h2, Bool.cond_eq_ite]
theorem truthE {a b : Int} (h : b < a) : Truth_0 a b = 1 ∧ Truth_1 a b = 0 := by
  simp only [Truth_0, Truth_1, bif_f (show (!Empty a b) = false by simp [empT.2 h]), told0, told1, hasD, Bool.cond_eq_ite, decide_eq_true_eq]
  rw [if_neg (by omega)]
  simp
theorem of0 {a b : Int} : of_0 a b = if b < a then 1 else a := by simp [of_0, None_0, Bool.cond_eq_ite]
theorem of1 {a b : Int} : of_1 a b = if b < a then 0 else b := by simp [of_1, None_1, Bool.cond_eq_ite]
theorem meet0 {a b c d : Int} : Meet_0 a b c d = if min b d < max a c then 1 else max a c := by
  simp only [Meet_0, of0, if_true, Bool.false_eq_true, if_false]
  (repeat' split) <;> omega
theorem meet1 {a b c d : Int} : Meet_1 a b c d = if min b d < max a c then 0 else min b d := by
  simp only [Meet_1, of1, if_true, Bool.false_eq_true, if_false]
  (repeat' split) <;> omega
theorem join0 {a b c d : Int} (h : a ≤ b) (h' : c ≤ d) : Join_0 a b c d = min a c := by
  simp only [Join_0, bif_f (empF.2 h), bif_f (empF.2 h'), if_true]
  split <;> omega
theorem join1 {a b c d : Int} (h : a ≤ b) (h' : c ≤ d) : Join_1 a b c d = max b d := by
  simp only [Join_1, bif_f (empF.2 h), bif_f (empF.2 h'), if_true, Bool.false_eq_true, if_false]
  split <;> omega
theorem join0E {a b c d : Int} (h : b < a) : Join_0 a b c d = if d < c then 1 else c := by
  simp only [Join_0, bif_t (empT.2 h), of0]
theorem join1E {a b c d : Int} (h : b < a) : Join_1 a b c d = if d < c then 0 else d := by
  simp only [Join_1, bif_t (empT.2 h), of1]
theorem join0R {a b c d : Int} (h : a ≤ b) (h' : d < c) : Join_0 a b c d = a := by
  simp only [Join_0, bif_f (empF.2 h), bif_t (empT.2 h')]
theorem join1R {a b c d : Int} (h : a ≤ b) (h' : d < c) : Join_1 a b c d = b := by
  simp only [Join_1, bif_f (empF.2 h), bif_t (empT.2 h')]
def min4 (a b c d : Int) : Int := min (min (min a b) c) d
def max4 (a b c d : Int) : Int := max (max (max a b) c) d
theorem j4_0 (a b c d : Int) : J4_0 a b c d = min4 a b c d := by
  unfold J4_0
  simp only [Of_0, Of_1]
  rw [join0E (a := 1) (b := 0) (by omega), join1E (a := 1) (b := 0) (by omega), if_neg (by omega), if_neg (by omega)]
  rw [join0 (a := a) (b := a) (c := b) (d := b) (by omega) (by omega), join1 (a := a) (b := a) (c := b) (d := b) (by omega) (by omega)]
  rw [join0 (a := min a b) (b := max a b) (c := c) (d := c) (by omega) (by omega), join1 (a := min a b) (b := max a b) (c := c) (d := c) (by omega) (by omega)]
  rw [join0 (by omega) (by omega)]
  rfl
theorem j4_1 (a b c d : Int) : J4_1 a b c d = max4 a b c d := by
  unfold J4_1
  simp only [Of_0, Of_1]
  rw [join0E (a := 1) (b := 0) (by omega), join1E (a := 1) (b := 0) (by omega), if_neg (by omega), if_neg (by omega)]
  rw [join0 (a := a) (b := a) (c := b) (d := b) (by omega) (by omega), join1 (a := a) (b := a) (c := b) (d := b) (by omega) (by omega)]
  rw [join0 (a := min a b) (b := max a b) (c := c) (d := c) (by omega) (by omega), join1 (a := min a b) (b := max a b) (c := c) (d := c) (by omega) (by omega)]
  rw [join1 (by omega) (by omega)]
  rfl
theorem not64' {b : Int} (h : Rg b) : IntKind.wrap .i64 ↑(BitVec.toNat (BitVec.ofInt 64 (-1) ^^^ BitVec.ofInt 64 b)) = -1 - b := by
  have e : BitVec.ofInt 64 (-1) = BitVec.allOnes 64 := by decide
  have e2 : BitVec.toNat (BitVec.ofInt 64 (-1) ^^^ BitVec.ofInt 64 b) = 2 ^ 64 - 1 - (b % 2 ^ 64).toNat := by
    rw [e, BitVec.allOnes_xor, BitVec.toNat_not, BitVec.toNat_ofInt]
    rfl
  rw [e2, wI]
  simp only [Rg] at h
  omega
theorem not64 {b : Int} (h : Rg b) : IntKind.wrap .i64 ↑(BitVec.toNat (BitVec.ofInt (IntKind.bits .i64) (if IntKind.signed .i64 = true then -1 else IntKind.max .i64) ^^^ BitVec.ofInt (IntKind.bits .i64) b)) = -1 - b := not64' h
theorem pick_has {a b n : Int} (h : a ≤ b) (ha : Rg a) (hb : Rg b) (hn : 0 ≤ n) (hn' : n ≤ 18446744073709551615) : a ≤ pick a b n ∧ pick a b n ≤ b := by
  simp only [Rg] at ha hb
  have e : IntKind.wrap .u64 (IntKind.wrap .u64 (IntKind.wrap .u64 b - IntKind.wrap .u64 a) + 1) = (b - a + 1) % 18446744073709551616 := by
    simp only [wU]; omega
  simp only [pick, e]
  by_cases h0 : (b - a + 1) % 18446744073709551616 = 0
  · rw [bif_t (by simpa using h0), wI]; omega
  · rw [bif_f (by simpa using h0)]
    have e1 : (b - a + 1) % 18446744073709551616 = b - a + 1 := by omega
    rw [e1]
    have r0 := Int.tmod_nonneg (b - a + 1) hn
    have r1 := Int.tmod_lt_of_pos n (show 0 < b - a + 1 by omega)
    generalize Int.tmod n (b - a + 1) = r at *
    simp only [wI, wU]
    omega
theorem range_rg {a b : Int} {c : Bool} {d e : Int} (ha : Rg a) (hb : Rg b) : Rg (rangespan_0 a b c d e) ∧ Rg (rangespan_1 a b c d e) := by
  simp only [rangespan_0, rangespan_1, Bool.cond_eq_ite]
  constructor
  · (repeat' split) <;> first | exact ha | exact wI_rg _ | (simp only [Rg]; omega)
  · (repeat' split) <;> first | exact hb | exact wI_rg _ | (simp only [Rg]; omega)
end S
