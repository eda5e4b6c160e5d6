/- The rest, the bits, the shifts, the comparisons. -/
import Derived.Test.YtobomgckeoomkaaSpS
set_option linter.unusedVariables false
set_option linter.unusedSimpArgs false
set_option maxRecDepth 100000
open Go Go.Im
namespace S
variable {a b c d p q : Int}
theorem has_rest (ra : Rg a) (rb : Rg b) (rc : Rg c) (rd : Rg d) (hp : a ≤ p ∧ p ≤ b) (hq : c ≤ q ∧ q ≤ d) (h0 : q ≠ 0) : Has (rest_0 a b c d) (rest_1 a b c d) (S.r p q) = true := by
  obtain ⟨f1, f2, f3, f4⟩ := Q.tmod_facts p q h0
  have e : S.r p q = p.tmod q := rfl
  rw [e]
  generalize p.tmod q = t at *
  simp only [rest_0, rest_1, size_abs rc, size_abs rd, Bool.false_eq_true, if_false, if_true, Bool.cond_eq_ite, beq_iff_eq]
  generalize hm : (if (d.natAbs : Int) > (c.natAbs : Int) then (d.natAbs : Int) else (c.natAbs : Int)) = m
  have hm1 : (q.natAbs : Int) ≤ m := by rw [← hm]; split <;> omega
  have hm2 : m ≤ 9223372036854775808 := by simp only [Rg] at *; rw [← hm]; split <;> omega
  have e1 : IntKind.wrap .u64 (m - 1) = m - 1 := wU_id (by omega) (by omega)
  rw [e1]
  have e2 : IntKind.wrap .i64 (m - 1) = m - 1 := wI_id (by omega) (by omega)
  rw [e2]
  have e3 : IntKind.wrap .i64 (0 - (m - 1)) = 0 - (m - 1) := wI_id (by omega) (by omega)
  rw [e3, if_neg (show ¬ m = 0 by omega), if_neg (show ¬ m = 0 by omega), hasI]
  have j1 : (if 0 < a then (0 : Int) else a) = min a 0 := by split <;> omega
  have j2 : (if 0 > b then (0 : Int) else b) = max b 0 := by split <;> omega
  rw [j1, j2]
  constructor
  · split <;> omega
  · split <;> omega
theorem ofInt_nat {x : Int} (h : 0 ≤ x) (h' : x ≤ 9223372036854775807) : (BitVec.ofInt 64 x).toNat = x.toNat := by
  rw [BitVec.toNat_ofInt]; omega
theorem and_r (hq : 0 ≤ q) (hq' : q ≤ 9223372036854775807) : 0 ≤ wand p q ∧ wand p q ≤ q := by
  have e : wand p q = IntKind.wrap .i64 ((BitVec.ofInt 64 p &&& BitVec.ofInt 64 q).toNat : Int) := rfl
  have h := Nat.and_le_right (n := (BitVec.ofInt 64 p).toNat) (m := (BitVec.ofInt 64 q).toNat)
  rw [e, BitVec.toNat_and, wI]
  rw [ofInt_nat hq hq'] at *
  omega
theorem and_l (hp : 0 ≤ p) (hp' : p ≤ 9223372036854775807) : 0 ≤ wand p q ∧ wand p q ≤ p := by
  have e : wand p q = IntKind.wrap .i64 ((BitVec.ofInt 64 p &&& BitVec.ofInt 64 q).toNat : Int) := rfl
  have h := Nat.and_le_left (n := (BitVec.ofInt 64 p).toNat) (m := (BitVec.ofInt 64 q).toNat)
  rw [e, BitVec.toNat_and, wI]
  rw [ofInt_nat hp hp'] at *
  omega
theorem has_low (rb : Rg b) (rd : Rg d) (hp : a ≤ p ∧ p ≤ b) (hq : c ≤ q ∧ q ≤ d) : Has (low_0 a b c d) (low_1 a b c d) (wand p q) = true := by
  simp only [Rg] at *
  have rw' : Rg (wand p q) := wI_rg _
  simp only [low_0, low_1, Bool.cond_eq_ite, decide_eq_true_eq, if_true]
  by_cases ha : a < 0 <;> by_cases hc : c < 0
  · simp only [ha, hc, if_true]; exact has_top rw'
  · have := and_r (p := p) (q := q) (by omega) (by omega)
    simp only [ha, hc, if_true, if_false, hasI]; omega
  · have := and_l (p := p) (q := q) (by omega) (by omega)
    simp only [ha, hc, if_true, if_false, hasI]; omega
  · have h1 := and_l (p := p) (q := q) (by omega) (by omega)
    have h2 := and_r (p := p) (q := q) (by omega) (by omega)
    simp only [ha, hc, if_false, hasI]
    split <;> omega
theorem tab_ok (u : Nat) (h : u < 256) : let t := (([0, 1, 2, 2, 3, 3, 3, 3, 4, 4, 4, 4, 4, 4, 4, 4, 5, 5, 5, 5, 5, 5, 5, 5, 5, 5, 5, 5, 5, 5, 5, 5] ++ List.replicate 32 6 ++ List.replicate 64 7 ++ List.replicate 128 8 : List UInt8)[u]?.getD 0).toNat
    u < 2 ^ t ∧ t ≤ 8 ∧ (u < 128 → t ≤ 7) := by
  have := h
  revert u
  decide +kernel
theorem len_lt {n : Int} (h0 : 0 ≤ n) (h1 : n ≤ 9223372036854775807) : 0 ≤ Len64 n ∧ Len64 n ≤ 63 ∧ n < 2 ^ (Len64 n).toNat := by
  have fd : ∀ (x : Int) (k : Nat), Int.fdiv x (2 ^ k) = x / 2 ^ k := fun x k => Int.fdiv_eq_ediv_of_nonneg _ (Int.le_of_lt (Int.pow_pos (by decide)))
  have k32 : (2 : Int) ^ min (Int.toNat 32) (IntKind.bits .u64) = 4294967296 := by decide
  have k16 : (2 : Int) ^ min (Int.toNat 16) (IntKind.bits .u64) = 65536 := by decide
  have k8 : (2 : Int) ^ min (Int.toNat 8) (IntKind.bits .u64) = 256 := by decide
  -- what is told of one leaf
  have leaf : ∀ (cst : Int) (x : Int) (s : Nat), 0 ≤ x → x < 256 → cst = s → s ≤ 56 → (s ≠ 56 → s ≤ 48) → (s = 56 → x < 128) → n / 2 ^ s = x →
      let t := IntKind.wrap .i64 (cst + IntKind.wrap .i64 ((([0, 1, 2, 2, 3, 3, 3, 3, 4, 4, 4, 4, 4, 4, 4, 4, 5, 5, 5, 5, 5, 5, 5, 5, 5, 5, 5, 5, 5, 5, 5, 5] ++ List.replicate 32 6 ++ List.replicate 64 7 ++ List.replicate 128 8 : List UInt8)[x.toNat]?.getD 0).toNat : Int))
      0 ≤ t ∧ t ≤ 63 ∧ n < 2 ^ t.toNat := by
    intro cst x s hx hx' hc hs hs8 hs7 hn
    obtain ⟨t1, t2, t3⟩ := tab_ok x.toNat (by omega)
    generalize ((([0, 1, 2, 2, 3, 3, 3, 3, 4, 4, 4, 4, 4, 4, 4, 4, 5, 5, 5, 5, 5, 5, 5, 5, 5, 5, 5, 5, 5, 5, 5, 5] ++ List.replicate 32 6 ++ List.replicate 64 7 ++ List.replicate 128 8 : List UInt8)[x.toNat]?.getD 0).toNat) = u at *
    intro t
    have et : t = ((s + u : Nat) : Int) := by
      show IntKind.wrap .i64 (cst + IntKind.wrap .i64 (u : Int)) = _
      rw [wI_id (x := (u : Int)) (by omega) (by omega), wI_id (by omega) (by omega)]; omega
    rw [et]
    have hu : s = 56 → u ≤ 7 := fun e => t3 (by have := hs7 e; omega)
    refine ⟨by omega, ?_, ?_⟩
    · by_cases e : s = 56
      · have := hu e; omega
      · have : s ≤ 48 := hs8 e
        omega
    · rw [Int.toNat_natCast, Int.pow_add]
      have hp : (0 : Int) < 2 ^ s := Int.pow_pos (by decide)
      have t1' : x < 2 ^ u := by
        have : ((x.toNat : Nat) : Int) < ((2 ^ u : Nat) : Int) := Int.ofNat_lt.2 t1
        rw [Int.natCast_pow] at this
        have e2 : ((2 : Nat) : Int) = 2 := rfl
        rw [e2] at this
        omega
      have h3 : n / 2 ^ s < 2 ^ u := by rw [hn]; exact t1'
      have := (Int.ediv_lt_iff_lt_mul hp).1 h3
      rw [Int.mul_comm]; exact this
  have p8 : ∀ x : Int, x / 256 / 1 = x / 256 := fun x => by omega
  unfold Len64
  simp only [k32, k16, k8, Bool.cond_eq_ite, decide_eq_true_eq]
  have f1 : Int.fdiv n 4294967296 = n / 4294967296 := Int.fdiv_eq_ediv_of_nonneg _ (by decide)
  have f2 : ∀ x : Int, Int.fdiv x 65536 = x / 65536 := fun x => Int.fdiv_eq_ediv_of_nonneg _ (by decide)
  have f3 : ∀ x : Int, Int.fdiv x 256 = x / 256 := fun x => Int.fdiv_eq_ediv_of_nonneg _ (by decide)
  simp only [f1, f2, f3]
  have w : ∀ x : Int, 0 ≤ x → x < 256 → IntKind.wrap .u8 x = x := fun x h h' => by rw [w8]; omega
  split
  · split
    · split
      · rw [w _ (by omega) (by omega)]; exact leaf _ _ 56 (by omega) (by omega) (by decide +kernel) (by omega) (by omega) (by omega) (by show n / 72057594037927936 = _; omega)
      · rw [w _ (by omega) (by omega)]; exact leaf _ _ 48 (by omega) (by omega) (by decide +kernel) (by omega) (by omega) (by omega) (by show n / 281474976710656 = _; omega)
    · split
      · rw [w _ (by omega) (by omega)]; exact leaf _ _ 40 (by omega) (by omega) (by decide +kernel) (by omega) (by omega) (by omega) (by show n / 1099511627776 = _; omega)
      · rw [w _ (by omega) (by omega)]; exact leaf _ _ 32 (by omega) (by omega) (by decide +kernel) (by omega) (by omega) (by omega) (by show n / 4294967296 = _; omega)
  · split
    · split
      · rw [w _ (by omega) (by omega)]; exact leaf _ _ 24 (by omega) (by omega) (by decide +kernel) (by omega) (by omega) (by omega) (by show n / 16777216 = _; omega)
      · rw [w _ (by omega) (by omega)]; exact leaf _ _ 16 (by omega) (by omega) (by decide +kernel) (by omega) (by omega) (by omega) (by show n / 65536 = _; omega)
    · split
      · rw [w _ (by omega) (by omega)]; exact leaf _ _ 8 (by omega) (by omega) (by decide +kernel) (by omega) (by omega) (by omega) (by show n / 256 = _; omega)
      · rw [w _ (by omega) (by omega)]; exact leaf _ _ 0 (by omega) (by omega) (by decide +kernel) (by omega) (by omega) (by omega) (by show n / 1 = _; omega)
end S
