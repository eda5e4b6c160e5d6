/- Numbers alone: what lies between what comes of the ends. -/
namespace Q
def Btw (x y z : Int) : Prop := min x z ≤ y ∧ y ≤ max x z
theorem Btw.of_le {x y z : Int} (h : x ≤ y) (h' : y ≤ z) : Btw x y z := by simp only [Btw]; omega
theorem Btw.of_ge {x y z : Int} (h : z ≤ y) (h' : y ≤ x) : Btw x y z := by simp only [Btw]; omega
theorem mul_l {a p b q : Int} (h : a ≤ p) (h' : p ≤ b) : Btw (a * q) (p * q) (b * q) := by
  rcases Int.le_total 0 q with hq | hq
  · exact .of_le (Int.mul_le_mul_of_nonneg_right h hq) (Int.mul_le_mul_of_nonneg_right h' hq)
  · exact .of_ge (Int.mul_le_mul_of_nonpos_right h' hq) (Int.mul_le_mul_of_nonpos_right h hq)
theorem mul_r {a p b q : Int} (h : a ≤ p) (h' : p ≤ b) : Btw (q * a) (q * p) (q * b) := by
  rw [Int.mul_comm q a, Int.mul_comm q p, Int.mul_comm q b]; exact mul_l h h'
theorem tdiv_l {a p b q : Int} (h : a ≤ p) (h' : p ≤ b) (hq : q ≠ 0) : Btw (a.tdiv q) (p.tdiv q) (b.tdiv q) := by
  rcases Int.lt_or_gt_of_ne hq with hq | hq
  · have e : ∀ x : Int, x.tdiv q = -(x.tdiv (-q)) := fun x => by rw [Int.tdiv_neg]; omega
    rw [e a, e p, e b]
    have h1 := Int.tdiv_le_tdiv (c := -q) (by omega) h
    have h2 := Int.tdiv_le_tdiv (c := -q) (by omega) h'
    exact .of_ge (by omega) (by omega)
  · exact .of_le (Int.tdiv_le_tdiv hq h) (Int.tdiv_le_tdiv hq h')
theorem tdiv_anti {p c q : Int} (hp : 0 ≤ p) (hc : 0 < c) (h : c ≤ q) : p.tdiv q ≤ p.tdiv c ∧ 0 ≤ p.tdiv q := by
  obtain ⟨m, rfl⟩ := Int.eq_ofNat_of_zero_le hp
  obtain ⟨k, rfl⟩ := Int.eq_ofNat_of_zero_le (show 0 ≤ c by omega)
  obtain ⟨n, rfl⟩ := Int.eq_ofNat_of_zero_le (show 0 ≤ q by omega)
  have e1 : (m : Int).tdiv (n : Int) = ((m / n : Nat) : Int) := rfl
  have e2 : (m : Int).tdiv (k : Int) = ((m / k : Nat) : Int) := rfl
  rw [e1, e2]
  have := Nat.div_le_div_left (a := m) (show k ≤ n by omega) (by omega)
  exact ⟨Int.ofNat_le.2 this, Int.natCast_nonneg _⟩
theorem tdiv_rp {p c q d : Int} (hc : 0 < c) (h : c ≤ q) (h' : q ≤ d) : Btw (p.tdiv c) (p.tdiv q) (p.tdiv d) := by
  rcases Int.le_total 0 p with hp | hp
  · exact .of_ge (tdiv_anti hp (by omega) h').1 (tdiv_anti hp hc h).1
  · have e : ∀ x : Int, p.tdiv x = -((-p).tdiv x) := fun x => by rw [Int.neg_tdiv]; omega
    rw [e c, e q, e d]
    have h1 := (tdiv_anti (p := -p) (by omega) (show 0 < q by omega) h').1
    have h2 := (tdiv_anti (p := -p) (by omega) hc h).1
    exact .of_le (by omega) (by omega)
theorem tdiv_r {p c q d : Int} (h : c ≤ q) (h' : q ≤ d) (hs : 0 < c ∨ d < 0) : Btw (p.tdiv c) (p.tdiv q) (p.tdiv d) := by
  rcases hs with hc | hd
  · exact tdiv_rp hc h h'
  · have e : ∀ x : Int, p.tdiv x = -(p.tdiv (-x)) := fun x => by rw [Int.tdiv_neg]; omega
    rw [e c, e q, e d]
    have := tdiv_rp (p := p) (c := -d) (q := -q) (d := -c) (by omega) (by omega) (by omega)
    simp only [Btw] at *; omega
theorem ediv_pow_btw (x : Int) (k : Nat) : (0 ≤ x → 0 ≤ x / 2 ^ k ∧ x / 2 ^ k ≤ x) ∧ (x < 0 → x ≤ x / 2 ^ k ∧ x / 2 ^ k < 0) := by
  have hp : (0 : Int) < 2 ^ k := Int.pow_pos (by decide)
  have h1 : (1 : Int) ≤ 2 ^ k := by omega
  constructor
  · intro h
    exact ⟨Int.ediv_nonneg h (by omega), Int.ediv_le_self _ h⟩
  · intro h
    refine ⟨?_, Int.ediv_neg_of_neg_of_pos h hp⟩
    have := Int.ediv_mul_le x (show (2 ^ k : Int) ≠ 0 by omega)
    have h2 : x / 2 ^ k < 0 := Int.ediv_neg_of_neg_of_pos h hp
    -- x ≤ x / 2^k
    rw [Int.le_ediv_iff_mul_le hp]
    have h3 : x * 2 ^ k ≤ x * 1 := Int.mul_le_mul_of_nonpos_left (by omega) h1
    omega
theorem shr_step (p : Int) (c k : Nat) : p / 2 ^ (c + k) = (p / 2 ^ c) / 2 ^ k := by
  rw [Int.pow_add, Int.ediv_ediv_of_nonneg (by exact Int.le_of_lt (Int.pow_pos (by decide)))]
theorem shr_r {p : Int} {c q d : Nat} (h : c ≤ q) (h' : q ≤ d) : Btw (p / 2 ^ c) (p / 2 ^ q) (p / 2 ^ d) := by
  obtain ⟨k, rfl⟩ := Nat.exists_eq_add_of_le h
  obtain ⟨j, rfl⟩ := Nat.exists_eq_add_of_le h'
  rw [shr_step p (c + k) j, shr_step p c k]
  have h1 := ediv_pow_btw (p / 2 ^ c) k
  have h2 := ediv_pow_btw (p / 2 ^ c / 2 ^ k) j
  rcases Int.lt_or_le (p / 2 ^ c) 0 with hx | hx
  · have := h1.2 hx
    have := h2.2 (by omega)
    exact .of_le (by omega) (by omega)
  · have := h1.1 hx
    have := h2.1 (by omega)
    exact .of_ge (by omega) (by omega)
theorem shr_l {a p b : Int} {q : Nat} (h : a ≤ p) (h' : p ≤ b) : Btw (a / 2 ^ q) (p / 2 ^ q) (b / 2 ^ q) := by
  have hp : (0 : Int) < 2 ^ q := Int.pow_pos (by decide)
  exact .of_le (Int.ediv_le_ediv hp h) (Int.ediv_le_ediv hp h')
/-- Of two numbers between ends what comes of them lies between what comes of the ends. -/
theorem four {x11 x12 x21 x22 y1 y2 z : Int} (h : Btw y1 z y2) (h1 : Btw x11 y1 x12) (h2 : Btw x21 y2 x22) : min (min (min x11 x12) x21) x22 ≤ z ∧ z ≤ max (max (max x11 x12) x21) x22 := by
  simp only [Btw] at *; omega
theorem tdiv_le (p q : Int) : (p.tdiv q).natAbs ≤ p.natAbs := by
  rw [Int.natAbs_tdiv]; exact Nat.div_le_self _ _
theorem tmod_facts (p q : Int) (hq : q ≠ 0) : (p.tmod q).natAbs < q.natAbs ∧ (p.tmod q).natAbs ≤ p.natAbs ∧ (0 ≤ p → 0 ≤ p.tmod q) ∧ (p ≤ 0 → p.tmod q ≤ 0) := by
  refine ⟨?_, ?_, fun h => Int.tmod_nonneg q h, fun h => ?_⟩
  · rw [Int.natAbs_tmod]; exact Nat.mod_lt _ (by omega)
  · rw [Int.natAbs_tmod]; exact Nat.mod_le _ _
  · have := Int.tmod_nonneg q (show 0 ≤ -p by omega)
    rw [Int.neg_tmod] at this; omega
end Q
