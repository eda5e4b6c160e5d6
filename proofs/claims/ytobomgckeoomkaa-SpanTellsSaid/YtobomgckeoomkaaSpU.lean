/- What an operation of two spans tells has what it tells of two of their numbers: each operation. -/
import Derived.Test.YtobomgckeoomkaaSpT
import Derived.Test.YtobomgckeoomkaaSpK
set_option linter.unusedVariables false
set_option linter.unusedSimpArgs false
set_option maxRecDepth 100000
open Go Go.Im
namespace S
section
variable {a b c d p q : Int}
theorem or_nat {x y : Int} (hx : 0 ≤ x) (hx' : x ≤ 9223372036854775807) (hy : 0 ≤ y) (hy' : y ≤ 9223372036854775807) : wor x y = ((x.toNat ||| y.toNat : Nat) : Int) := by
  have e : wor x y = IntKind.wrap .i64 ((BitVec.ofInt 64 x ||| BitVec.ofInt 64 y).toNat : Int) := rfl
  have h := Nat.or_lt_two_pow (x := x.toNat) (y := y.toNat) (n := 63) (by omega) (by omega)
  rw [e, BitVec.toNat_or, ofInt_nat hx hx', ofInt_nat hy hy']
  exact wI_id (by omega) (by omega)
theorem xor_nat {x y : Int} (hx : 0 ≤ x) (hx' : x ≤ 9223372036854775807) (hy : 0 ≤ y) (hy' : y ≤ 9223372036854775807) : wxor x y = ((x.toNat ^^^ y.toNat : Nat) : Int) := by
  have e : wxor x y = IntKind.wrap .i64 ((BitVec.ofInt 64 x ^^^ BitVec.ofInt 64 y).toNat : Int) := rfl
  have h := Nat.xor_lt_two_pow (x := x.toNat) (y := y.toNat) (n := 63) (by omega) (by omega)
  rw [e, BitVec.toNat_xor, ofInt_nat hx hx', ofInt_nat hy hy']
  exact wI_id (by omega) (by omega)
theorem wide_val (ha : 0 ≤ a) (hab : a ≤ b) (hb : b ≤ 9223372036854775807) (hc : 0 ≤ c) (hcd : c ≤ d) (hd : d ≤ 9223372036854775807) : wide_0 a b c d = 0 ∧ ∃ k : Nat, k ≤ 63 ∧ wide_1 a b c d = 2 ^ k - 1 ∧ b < 2 ^ k ∧ d < 2 ^ k ∧ (k : Int) = Len64 (wor b d) := by
  have e0 : wide_0 a b c d = 0 := by
    simp only [wide_0, Bool.cond_eq_ite, decide_eq_true_eq]; rw [if_neg (by omega), if_neg (by omega)]
  have e1 : wide_1 a b c d = IntKind.wrap .i64 (IntKind.wrap .u64 (IntKind.wrap .u64 (1 * 2 ^ min (Int.toNat (Len64 (IntKind.wrap .u64 (wor b d)))) 64) - 1)) := by
    have : wide_1 a b c d = (bif decide (a < 0) then (9223372036854775807) else (bif decide (c < 0) then (9223372036854775807) else IntKind.wrap .i64 (IntKind.wrap .u64 (IntKind.wrap .u64 (1 * 2 ^ min (Int.toNat (Len64 (IntKind.wrap .u64 (wor b d)))) 64) - 1)))) := rfl
    rw [this, bif_f (by simp; omega), bif_f (by simp; omega)]
  have ho := or_nat (x := b) (y := d) (by omega) hb (by omega) hd
  have hl := Nat.or_lt_two_pow (x := b.toNat) (y := d.toNat) (n := 63) (by omega) (by omega)
  have g1 := Nat.left_le_or (n := b.toNat) (m := d.toNat)
  have g2 := Nat.right_le_or (n := b.toNat) (m := d.toNat)
  have hu : IntKind.wrap .u64 (wor b d) = wor b d := wU_id (by omega) (by omega)
  obtain ⟨l1, l2, l3⟩ := len_lt (n := wor b d) (by omega) (by omega)
  rw [e1, hu]
  have em : min (Int.toNat (Len64 (wor b d))) 64 = (Len64 (wor b d)).toNat := by omega
  rw [em]
  have hk : (Len64 (wor b d)).toNat ≤ 63 := by omega
  have hck : ((Len64 (wor b d)).toNat : Int) = Len64 (wor b d) := by omega
  generalize (Len64 (wor b d)).toNat = k at *
  have hp : (1 : Int) ≤ 2 ^ k := Int.pow_pos (by decide)
  have hp2 : (2 : Int) ^ k ≤ 2 ^ 63 := by
    have : (2 : Nat) ^ k ≤ 2 ^ 63 := Nat.pow_le_pow_right (by decide) hk
    exact_mod_cast this
  have hp3 : (2 : Int) ^ 63 = 9223372036854775808 := by decide
  rw [hp3] at hp2
  rw [wU_id (x := 1 * 2 ^ k) (by omega) (by omega), wU_id (by omega) (by omega), wI_id (by omega) (by omega)]
  exact ⟨e0, k, hk, by omega, by omega, by omega, hck⟩
theorem pow_nat {x : Int} {k : Nat} (h : 0 ≤ x) (h' : x < 2 ^ k) : x.toNat < 2 ^ k := by
  have : ((x.toNat : Nat) : Int) < ((2 ^ k : Nat) : Int) := by rw [Int.natCast_pow]; have e2 : ((2 : Nat) : Int) = 2 := rfl; rw [e2]; omega
  exact Int.ofNat_lt.1 this
theorem nat_pow {m k : Nat} (h : m < 2 ^ k) : (m : Int) < 2 ^ k := by
  have : (m : Int) < ((2 ^ k : Nat) : Int) := Int.ofNat_lt.2 h
  rw [Int.natCast_pow] at this
  exact this
theorem has_wide {f : Int → Int → Int} {g : Nat → Nat → Nat} (hf : ∀ x y, 0 ≤ x → x ≤ 9223372036854775807 → 0 ≤ y → y ≤ 9223372036854775807 → f x y = (g x.toNat y.toNat : Int)) (hg : ∀ x y k, x < 2 ^ k → y < 2 ^ k → g x y < 2 ^ k) (hr : Rg (f p q))
    (rb : Rg b) (rd : Rg d) (hp : a ≤ p ∧ p ≤ b) (hq : c ≤ q ∧ q ≤ d) : Has (wide_0 a b c d) (wide_1 a b c d) (f p q) = true := by
  simp only [Rg] at rb rd
  by_cases ha : a < 0
  · have e0 : wide_0 a b c d = -9223372036854775808 := by simp [wide_0, ha]
    have e1 : wide_1 a b c d = 9223372036854775807 := by simp [wide_1, ha]
    rw [e0, e1]; exact has_top hr
  · by_cases hc : c < 0
    · have e0 : wide_0 a b c d = -9223372036854775808 := by simp [wide_0, ha, hc]
      have e1 : wide_1 a b c d = 9223372036854775807 := by simp [wide_1, ha, hc]
      rw [e0, e1]; exact has_top hr
    · obtain ⟨w0, k, hk, w1, hb, hd, _⟩ := wide_val (a := a) (b := b) (c := c) (d := d) (by omega) (by omega) (by omega) (by omega) (by omega) (by omega)
      have := nat_pow (hg p.toNat q.toNat k (pow_nat (by omega) (by omega)) (pow_nat (by omega) (by omega)))
      rw [hf p q (by omega) (by omega) (by omega) (by omega), w0, w1, hasI]
      omega
theorem has_or (rb : Rg b) (rd : Rg d) (hp : a ≤ p ∧ p ≤ b) (hq : c ≤ q ∧ q ≤ d) : Has (wide_0 a b c d) (wide_1 a b c d) (wor p q) = true :=
  has_wide (f := wor) (g := fun x y => x ||| y) (fun x y h1 h2 h3 h4 => or_nat h1 h2 h3 h4) (fun x y k h h' => Nat.or_lt_two_pow h h') (wI_rg _) rb rd hp hq
theorem has_xor (rb : Rg b) (rd : Rg d) (hp : a ≤ p ∧ p ≤ b) (hq : c ≤ q ∧ q ≤ d) : Has (wide_0 a b c d) (wide_1 a b c d) (wxor p q) = true :=
  has_wide (f := wxor) (g := fun x y => x ^^^ y) (fun x y h1 h2 h3 h4 => xor_nat h1 h2 h3 h4) (fun x y k h h' => Nat.xor_lt_two_pow h h') (wI_rg _) rb rd hp hq
theorem has_told {x y v : Bool} (h1 : v = true → y = true) (h0 : v = false → x = true) : Has (told_0 x y) (told_1 x y) (wbit v) = true := by
  rw [told0, told1]
  cases v
  · rw [h0 rfl]; cases y <;> rfl
  · rw [h1 rfl]; cases x <;> rfl
theorem has_clt (hp : a ≤ p ∧ p ≤ b) (hq : c ≤ q ∧ q ≤ d) : Has (clt_0 a b c d) (clt_1 a b c d) (wbit (decide (p < q))) = true :=
  has_told (fun h => by simp only [decide_eq_true_eq] at *; omega) (fun h => by simp only [decide_eq_true_eq, decide_eq_false_iff_not] at *; omega)
theorem has_cle (hp : a ≤ p ∧ p ≤ b) (hq : c ≤ q ∧ q ≤ d) : Has (cle_0 a b c d) (cle_1 a b c d) (wbit (decide (p ≤ q))) = true :=
  has_told (fun h => by simp only [decide_eq_true_eq] at *; omega) (fun h => by simp only [decide_eq_true_eq, decide_eq_false_iff_not] at *; omega)
theorem meet_ne (hp : a ≤ p ∧ p ≤ b) (hq : c ≤ p ∧ p ≤ d) : (!Empty (Meet_0 a b c d) (Meet_1 a b c d)) = true := by
  rw [meet0, meet1, if_neg (by omega), if_neg (by omega), Bool.not_eq_true', empF]; omega
theorem has_ceq (hp : a ≤ p ∧ p ≤ b) (hq : c ≤ q ∧ q ≤ d) : Has (ceq_0 a b c d) (ceq_1 a b c d) (wbit (p == q)) = true := by
  have hm : (p == q) = true → (!Empty (Meet_0 a b c d) (Meet_1 a b c d)) = true := fun h => by
    have h' : p = q := by simpa using h
    subst h'; exact meet_ne hp hq
  simp only [ceq_0, ceq_1]
  cases e : (!(a == c && (b == d && true))) with
  | true => simp only [cond_true]; exact has_told hm (fun _ => rfl)
  | false =>
    simp only [cond_false]
    refine has_told hm fun h => ?_
    have h' : p ≠ q := by simpa using h
    have e' : a = c ∧ b = d := by simpa using e
    simp only [bne_iff_ne, ne_eq]; omega
theorem has_cne (hp : a ≤ p ∧ p ≤ b) (hq : c ≤ q ∧ q ≤ d) : Has (cne_0 a b c d) (cne_1 a b c d) (wbit (p != q)) = true := by
  have hm : (p != q) = false → (!Empty (Meet_0 a b c d) (Meet_1 a b c d)) = true := fun h => by
    have h' : p = q := by simpa using h
    subst h'; exact meet_ne hp hq
  simp only [cne_0, cne_1]
  cases e : (!(a == c && (b == d && true))) with
  | true => simp only [cond_true]; exact has_told (fun _ => rfl) hm
  | false =>
    simp only [cond_false]
    refine has_told (fun h => ?_) hm
    have h' : p ≠ q := by simpa using h
    have e' : a = c ∧ b = d := by simpa using e
    simp only [bne_iff_ne, ne_eq]; omega
theorem wboth_v (p q : Int) : wboth p q = if p ≠ 0 ∧ q ≠ 0 then 1 else 0 := by
  by_cases h : p = 0 <;> by_cases h' : q = 0 <;> simp [wboth, wbit, h, h', Bool.cond_eq_ite]
theorem wone_v (p q : Int) : wone p q = if p ≠ 0 ∨ q ≠ 0 then 1 else 0 := by
  by_cases h : p = 0 <;> by_cases h' : q = 0 <;> simp [wone, wbit, h, h', Bool.cond_eq_ite]
theorem has_lboth (hp : a ≤ p ∧ p ≤ b) (hq : c ≤ q ∧ q ≤ d) : Has (lboth_0 a b c d) (lboth_1 a b c d) (wboth p q) = true := by
  simp only [lboth_0, lboth_1, if_true, truth0 (show a ≤ b by omega), truth0 (show c ≤ d by omega), truth1 (show a ≤ b by omega), truth1 (show c ≤ d by omega), hasI, wboth_v]
  constructor
  · (repeat' split) <;> omega
  · (repeat' split) <;> omega
theorem has_lone (hp : a ≤ p ∧ p ≤ b) (hq : c ≤ q ∧ q ≤ d) : Has (lone_0 a b c d) (lone_1 a b c d) (wone p q) = true := by
  simp only [lone_0, lone_1, Bool.false_eq_true, if_false, truth0 (show a ≤ b by omega), truth0 (show c ≤ d by omega), truth1 (show a ≤ b by omega), truth1 (show c ≤ d by omega), hasI, wone_v]
  constructor
  · (repeat' split) <;> omega
  · (repeat' split) <;> omega
theorem has_joinL {l0 l1 r0 r1 v : Int} (h : Has l0 l1 v = true) : Has (Join_0 l0 l1 r0 r1) (Join_1 l0 l1 r0 r1) v = true := by
  rw [hasI] at *
  by_cases hr : r1 < r0
  · rw [join0R (by omega) hr, join1R (by omega) hr]; exact h
  · rw [join0 (by omega) (by omega), join1 (by omega) (by omega)]; omega
theorem has_joinR {l0 l1 r0 r1 v : Int} (h : Has r0 r1 v = true) : Has (Join_0 l0 l1 r0 r1) (Join_1 l0 l1 r0 r1) v = true := by
  rw [hasI] at *
  by_cases hl : l1 < l0
  · rw [join0E hl, join1E hl, if_neg (by omega), if_neg (by omega)]; exact h
  · rw [join0 (by omega) (by omega), join1 (by omega) (by omega)]; omega
theorem has_quo (ra : Rg a) (rb : Rg b) (rc : Rg c) (rd : Rg d) (hp : a ≤ p ∧ p ≤ b) (hq : c ≤ q ∧ q ≤ d) (h0 : q ≠ 0) : Has (Join_0 (quot_0 a b (Meet_0 c d (-9223372036854775808) (-1)) (Meet_1 c d (-9223372036854775808) (-1))) (quot_1 a b (Meet_0 c d (-9223372036854775808) (-1)) (Meet_1 c d (-9223372036854775808) (-1))) (quot_0 a b (Meet_0 c d 1 9223372036854775807) (Meet_1 c d 1 9223372036854775807)) (quot_1 a b (Meet_0 c d 1 9223372036854775807) (Meet_1 c d 1 9223372036854775807)))
    (Join_1 (quot_0 a b (Meet_0 c d (-9223372036854775808) (-1)) (Meet_1 c d (-9223372036854775808) (-1))) (quot_1 a b (Meet_0 c d (-9223372036854775808) (-1)) (Meet_1 c d (-9223372036854775808) (-1))) (quot_0 a b (Meet_0 c d 1 9223372036854775807) (Meet_1 c d 1 9223372036854775807)) (quot_1 a b (Meet_0 c d 1 9223372036854775807) (Meet_1 c d 1 9223372036854775807))) (S.q p q) = true := by
  simp only [Rg] at rc rd
  rcases Int.lt_or_gt_of_ne h0 with hn | hn
  · refine has_joinL (has_quot ra rb hp ?_ ?_)
    · rw [meet0, meet1, if_neg (by omega), if_neg (by omega)]; omega
    · rw [meet0, meet1, if_neg (by omega), if_neg (by omega)]; omega
  · refine has_joinR (has_quot ra rb hp ?_ ?_)
    · rw [meet0, meet1, if_neg (by omega), if_neg (by omega)]; omega
    · rw [meet0, meet1, if_neg (by omega), if_neg (by omega)]; omega
theorem has_shr (hp : a ≤ p ∧ p ≤ b) (hq : c ≤ q ∧ q ≤ d) (h0 : 0 ≤ q) (h1 : q ≤ 63) : Has (shr_0 a b c d) (shr_1 a b c d) (nright_0 p q) = true := by
  have m0 : Meet_0 c d 0 63 = max c 0 := by rw [meet0, if_neg (by omega)]
  have m1 : Meet_1 c d 0 63 = min d 63 := by rw [meet1, if_neg (by omega)]
  simp only [shr_0, shr_1, m0, m1]
  rw [bif_f (empF.2 (by omega)), bif_f (empF.2 (by omega))]
  exact has_right hp (by omega) (by omega) (by omega)
theorem has_shl (ra : Rg a) (rb : Rg b) (hp : a ≤ p ∧ p ≤ b) (hq : c ≤ q ∧ q ≤ d) (h0 : 0 ≤ q) (h1 : q ≤ 63) : Has (shl_0 a b c d) (shl_1 a b c d) (wleft p q) = true := by
  have m0 : Meet_0 c d 0 63 = max c 0 := by rw [meet0, if_neg (by omega)]
  have m1 : Meet_1 c d 0 63 = min d 63 := by rw [meet1, if_neg (by omega)]
  simp only [shl_0, shl_1, m0, m1]
  rw [bif_f (empF.2 (by omega)), bif_f (empF.2 (by omega)), one1]
  by_cases e : max c 0 = min d 63
  · have eq : max c 0 = q := by omega
    have eq' : min d 63 = q := by omega
    rw [eq, eq']
    have o : One_0 q q = q := one0 rfl
    rw [o]
    by_cases e3 : q = 63
    · subst e3; exact has_top (wI_rg _)
    · have t : ∀ z z' : Int, (bif !decide (q = q) then z else (bif q == 63 then z else z')) = z' := fun z z' => by rw [bif_f (by simp), bif_f (by simpa using e3)]
      rw [t, t]
      have ek : min (Int.toNat (IntKind.wrap .u64 q)) (IntKind.bits .i64) = q.toNat := by
        have : min (Int.toNat (IntKind.wrap .u64 q)) 64 = q.toNat := by rw [wU]; omega
        exact this
      rw [ek]
      have hk : q.toNat ≤ 62 := by omega
      have hp1 : (1 : Int) ≤ 2 ^ q.toNat := Int.pow_pos (by decide)
      have hp2 : (2 : Int) ^ q.toNat ≤ 2 ^ 62 := by
        have : (2 : Nat) ^ q.toNat ≤ 2 ^ 62 := Nat.pow_le_pow_right (by decide) hk
        exact_mod_cast this
      have hp3 : (2 : Int) ^ 62 = 4611686018427387904 := by decide
      rw [hp3] at hp2
      have e1 : IntKind.wrap .i64 (1 * 2 ^ q.toNat) = 2 ^ q.toNat := by rw [Int.one_mul]; exact wI_id (by omega) (by omega)
      rw [e1]
      have ew : wleft p q = nmul_0 p (2 ^ q.toNat) := by
        have : wleft p q = IntKind.wrap .i64 (p * 2 ^ min (Int.toNat (IntKind.wrap .u64 q)) (IntKind.bits .i64)) := rfl
        rw [this, ek]; rfl
      rw [ew]
      have r2 : Rg (2 ^ q.toNat) := by simp only [Rg]; omega
      exact has_mul ra rb r2 r2 hp ⟨Int.le_refl _, Int.le_refl _⟩
  · rw [decide_eq_false e]; exact has_top (wI_rg _)
/-- Where both are single ones the answer is that of these. -/
theorem wrapS {f1 f0 : Int → Int → Int} {g0 g1 : Int} (hp : a ≤ p ∧ p ≤ b) (hq : c ≤ q ∧ q ≤ d) (ht : f1 p q = 0) (hg : Has g0 g1 (f0 p q) = true) :
    Has (bif Empty a b then 1 else (bif Empty c d then 1 else (bif One_1 a b then (bif One_1 c d then (bif f1 (One_0 a b) (One_0 c d) != 0 then 1 else Of_0 (f0 (One_0 a b) (One_0 c d))) else g0) else g0)))
      (bif Empty a b then 0 else (bif Empty c d then 0 else (bif One_1 a b then (bif One_1 c d then (bif f1 (One_0 a b) (One_0 c d) != 0 then 0 else Of_1 (f0 (One_0 a b) (One_0 c d))) else g1) else g1))) (f0 p q) = true := by
  rw [bif_f (empF.2 (show a ≤ b by omega)), bif_f (empF.2 (show c ≤ d by omega)), bif_f (empF.2 (show a ≤ b by omega)), bif_f (empF.2 (show c ≤ d by omega)), one1, one1]
  by_cases e : a = b
  · by_cases e' : c = d
    · have o : One_0 a b = p := by rw [one0 e]; omega
      have o' : One_0 c d = q := by rw [one0 e']; omega
      rw [o, o', ht, decide_eq_true e, decide_eq_true e']
      simp only [cond_true, hasI]
      exact ⟨Int.le_refl _, Int.le_refl _⟩
    · rw [decide_eq_true e, decide_eq_false e']; exact hg
  · rw [decide_eq_false e]; exact hg
end
/-- What is to be shown of each operation. -/
def Snd (A B C D p q : Int) (o : ByteArray) : Prop :=
  (B < A ∨ D < C → SB_0 o A B C D = 1 ∧ SB_1 o A B C D = 0) ∧
  ((A ≤ p ∧ p ≤ B) → (C ≤ q ∧ q ≤ D) → (WB_1 o p q = 0 → Has (SB_0 o A B C D) (SB_1 o A B C D) (WB_0 o p q) = true) ∧ (WB_1 o p q ≠ 0 → Traps o A B C D = WB_1 o p q))
theorem wrapE {a b c d : Int} {x y : Int} (h : b < a ∨ d < c) (z : Int) : (bif Empty a b then z else (bif Empty c d then z else x)) = z := by
  by_cases h0 : b < a
  · rw [bif_t (empT.2 h0)]
  · rw [bif_f (empF.2 (by omega)), bif_t (empT.2 (by omega))]
theorem bif_ind {P : ByteArray → Prop} {c : Bool} {x y : ByteArray} (hx : P x) (hy : P y) : P (bif c then x else y) := by cases c <;> assumption
theorem op_ind {P : ByteArray → Prop} {t : ByteArray} {k : Int} (hk : 0 ≤ k) (hk' : k ≤ 255) (h0 : P ⟨#[124, 124]⟩) (h1 : P ⟨#[38, 38]⟩) (h2 : P ⟨#[124]⟩) (h3 : P ⟨#[94]⟩) (h4 : P ⟨#[38]⟩) (h5 : P ⟨#[61, 61]⟩) (h6 : P ⟨#[33, 61]⟩) (h7 : P ⟨#[60]⟩) (h8 : P ⟨#[60, 61]⟩) (h9 : P ⟨#[62]⟩) (h10 : P ⟨#[62, 61]⟩) (h11 : P ⟨#[60, 60]⟩) (h12 : P ⟨#[62, 62]⟩) (h13 : P ⟨#[43]⟩) (h14 : P ⟨#[45]⟩) (h15 : P ⟨#[42]⟩) (h16 : P ⟨#[47]⟩) (h17 : P ⟨#[37]⟩) : P (S.op t (Int.tmod k 180)) := by
  have r0 := Int.tmod_nonneg 180 hk
  have r1 := Int.tmod_lt_of_pos k (show (0 : Int) < 180 by decide)
  generalize Int.tmod k 180 = m at *
  unfold S.op
  have e : decide (IntKind.wrap .i64 m < IntKind.wrap .i64 (10 * 18)) = true := by
    have e2 : IntKind.wrap .i64 (10 * 18) = 180 := by decide +kernel
    rw [e2, wI_id (by omega) (by omega)]; simpa using r1
  rw [bif_t e]
  exact bif_ind h0 (bif_ind h1 (bif_ind h2 (bif_ind h3 (bif_ind h4 (bif_ind h5 (bif_ind h6 (bif_ind h7 (bif_ind h8 (bif_ind h9 (bif_ind h10 (bif_ind h11 (bif_ind h12 (bif_ind h13 (bif_ind h14 (bif_ind h15 (bif_ind h16 h17))))))))))))))))
theorem snd_Bone {A B C D p q : Int} (rA : Rg A) (rB : Rg B) (rC : Rg C) (rD : Rg D) : Snd A B C D p q ⟨#[124, 124]⟩ := by
  refine ⟨fun h => ⟨wrapE (y := 0) h 1, wrapE (y := 0) h 0⟩, fun hp hq => ⟨fun ht => ?_, fun ht => ?_⟩⟩
  · exact wrapS (f1 := Bone_1) (f0 := Bone_0) hp hq ht (has_lone hp hq)
  · exact absurd rfl ht
theorem snd_Bboth {A B C D p q : Int} (rA : Rg A) (rB : Rg B) (rC : Rg C) (rD : Rg D) : Snd A B C D p q ⟨#[38, 38]⟩ := by
  refine ⟨fun h => ⟨wrapE (y := 0) h 1, wrapE (y := 0) h 0⟩, fun hp hq => ⟨fun ht => ?_, fun ht => ?_⟩⟩
  · exact wrapS (f1 := Bboth_1) (f0 := Bboth_0) hp hq ht (has_lboth hp hq)
  · exact absurd rfl ht
theorem snd_Bor {A B C D p q : Int} (rA : Rg A) (rB : Rg B) (rC : Rg C) (rD : Rg D) : Snd A B C D p q ⟨#[124]⟩ := by
  refine ⟨fun h => ⟨wrapE (y := 0) h 1, wrapE (y := 0) h 0⟩, fun hp hq => ⟨fun ht => ?_, fun ht => ?_⟩⟩
  · exact wrapS (f1 := Bor_1) (f0 := Bor_0) hp hq ht (has_or rB rD hp hq)
  · exact absurd rfl ht
theorem snd_Bxor {A B C D p q : Int} (rA : Rg A) (rB : Rg B) (rC : Rg C) (rD : Rg D) : Snd A B C D p q ⟨#[94]⟩ := by
  refine ⟨fun h => ⟨wrapE (y := 0) h 1, wrapE (y := 0) h 0⟩, fun hp hq => ⟨fun ht => ?_, fun ht => ?_⟩⟩
  · exact wrapS (f1 := Bxor_1) (f0 := Bxor_0) hp hq ht (has_xor rB rD hp hq)
  · exact absurd rfl ht
theorem snd_Band {A B C D p q : Int} (rA : Rg A) (rB : Rg B) (rC : Rg C) (rD : Rg D) : Snd A B C D p q ⟨#[38]⟩ := by
  refine ⟨fun h => ⟨wrapE (y := 0) h 1, wrapE (y := 0) h 0⟩, fun hp hq => ⟨fun ht => ?_, fun ht => ?_⟩⟩
  · exact wrapS (f1 := Band_1) (f0 := Band_0) hp hq ht (has_low rB rD hp hq)
  · exact absurd rfl ht
theorem snd_Beq {A B C D p q : Int} (rA : Rg A) (rB : Rg B) (rC : Rg C) (rD : Rg D) : Snd A B C D p q ⟨#[61, 61]⟩ := by
  refine ⟨fun h => ⟨wrapE (y := 0) h 1, wrapE (y := 0) h 0⟩, fun hp hq => ⟨fun ht => ?_, fun ht => ?_⟩⟩
  · exact wrapS (f1 := Beq_1) (f0 := Beq_0) hp hq ht (has_ceq hp hq)
  · exact absurd rfl ht
theorem snd_Bne {A B C D p q : Int} (rA : Rg A) (rB : Rg B) (rC : Rg C) (rD : Rg D) : Snd A B C D p q ⟨#[33, 61]⟩ := by
  refine ⟨fun h => ⟨wrapE (y := 0) h 1, wrapE (y := 0) h 0⟩, fun hp hq => ⟨fun ht => ?_, fun ht => ?_⟩⟩
  · exact wrapS (f1 := Bne_1) (f0 := Bne_0) hp hq ht (has_cne hp hq)
  · exact absurd rfl ht
theorem snd_Blt {A B C D p q : Int} (rA : Rg A) (rB : Rg B) (rC : Rg C) (rD : Rg D) : Snd A B C D p q ⟨#[60]⟩ := by
  refine ⟨fun h => ⟨wrapE (y := 0) h 1, wrapE (y := 0) h 0⟩, fun hp hq => ⟨fun ht => ?_, fun ht => ?_⟩⟩
  · exact wrapS (f1 := Blt_1) (f0 := Blt_0) hp hq ht (has_clt hp hq)
  · exact absurd rfl ht
theorem snd_Ble {A B C D p q : Int} (rA : Rg A) (rB : Rg B) (rC : Rg C) (rD : Rg D) : Snd A B C D p q ⟨#[60, 61]⟩ := by
  refine ⟨fun h => ⟨wrapE (y := 0) h 1, wrapE (y := 0) h 0⟩, fun hp hq => ⟨fun ht => ?_, fun ht => ?_⟩⟩
  · exact wrapS (f1 := Ble_1) (f0 := Ble_0) hp hq ht (has_cle hp hq)
  · exact absurd rfl ht
theorem snd_Bgt {A B C D p q : Int} (rA : Rg A) (rB : Rg B) (rC : Rg C) (rD : Rg D) : Snd A B C D p q ⟨#[62]⟩ := by
  refine ⟨fun h => ⟨wrapE (y := 0) h 1, wrapE (y := 0) h 0⟩, fun hp hq => ⟨fun ht => ?_, fun ht => ?_⟩⟩
  · exact wrapS (f1 := Bgt_1) (f0 := Bgt_0) hp hq ht (has_clt hq hp)
  · exact absurd rfl ht
theorem snd_Bge {A B C D p q : Int} (rA : Rg A) (rB : Rg B) (rC : Rg C) (rD : Rg D) : Snd A B C D p q ⟨#[62, 61]⟩ := by
  refine ⟨fun h => ⟨wrapE (y := 0) h 1, wrapE (y := 0) h 0⟩, fun hp hq => ⟨fun ht => ?_, fun ht => ?_⟩⟩
  · exact wrapS (f1 := Bge_1) (f0 := Bge_0) hp hq ht (has_cle hq hp)
  · exact absurd rfl ht
theorem snd_Bleft {A B C D p q : Int} (rA : Rg A) (rB : Rg B) (rC : Rg C) (rD : Rg D) : Snd A B C D p q ⟨#[60, 60]⟩ := by
  refine ⟨fun h => ⟨wrapE (y := 0) h 1, wrapE (y := 0) h 0⟩, fun hp hq => ⟨fun ht => ?_, fun ht => ?_⟩⟩
  · have ht' : Bleft_1 p q = 0 := ht
    have hr : 0 ≤ q ∧ q ≤ 63 := by
      by_cases h1 : q < 0
      · simp [Bleft_1, h1] at ht'
      · by_cases h2 : q > 63
        · simp [Bleft_1, h1, h2] at ht'
        · omega
    have e : Bleft_0 p q = wleft p q := by
      have n1 : ¬ q < 0 := by omega
      have n2 : ¬ q > 63 := by omega
      simp only [Bleft_0, decide_eq_false n1, decide_eq_false n2, cond_false]
    exact wrapS (f1 := Bleft_1) (f0 := Bleft_0) hp hq ht (by rw [e]; exact has_shl rA rB hp hq hr.1 hr.2)
  · have ht' : Bleft_1 p q ≠ 0 := ht
    have hr : q < 0 ∨ q > 63 := by
      by_cases h1 : q < 0
      · exact .inl h1
      · by_cases h2 : q > 63
        · exact .inr h2
        · simp [Bleft_1, h1, h2] at ht'
    have e1 : WB_1 ⟨#[60, 60]⟩ p q = 2 := by
      show Bleft_1 p q = 2
      rcases hr with h | h
      · simp [Bleft_1, h]
      · have n1 : ¬ q < 0 := by omega
        simp [Bleft_1, n1, h]
    have e2 : Traps ⟨#[60, 60]⟩ A B C D = 2 := by
      have ke : Traps ⟨#[60, 60]⟩ A B C D = (bif Empty A B then (0 : Int) else (bif Empty C D then 0 else (bif !In C D 0 63 then 2 else 0))) := by kernel_rfl
      rw [ke]
      have hI : In C D 0 63 = false := by rw [Bool.eq_false_iff]; intro h; rw [inI] at h; omega
      rw [bif_f (empF.2 (by omega)), bif_f (empF.2 (by omega)), hI]; rfl
    rw [e1, e2]
theorem snd_Bright {A B C D p q : Int} (rA : Rg A) (rB : Rg B) (rC : Rg C) (rD : Rg D) : Snd A B C D p q ⟨#[62, 62]⟩ := by
  refine ⟨fun h => ⟨wrapE (y := 0) h 1, wrapE (y := 0) h 0⟩, fun hp hq => ⟨fun ht => ?_, fun ht => ?_⟩⟩
  · have ht' : Bright_1 p q = 0 := ht
    have hr : 0 ≤ q ∧ q ≤ 63 := by
      by_cases h1 : q < 0
      · simp [Bright_1, h1] at ht'
      · by_cases h2 : q > 63
        · simp [Bright_1, h1, h2] at ht'
        · omega
    have e : Bright_0 p q = nright_0 p q := by
      have n1 : ¬ q < 0 := by omega
      have n2 : ¬ q > 63 := by omega
      simp only [Bright_0, decide_eq_false n1, decide_eq_false n2, cond_false]; rfl
    exact wrapS (f1 := Bright_1) (f0 := Bright_0) hp hq ht (by rw [e]; exact has_shr hp hq hr.1 hr.2)
  · have ht' : Bright_1 p q ≠ 0 := ht
    have hr : q < 0 ∨ q > 63 := by
      by_cases h1 : q < 0
      · exact .inl h1
      · by_cases h2 : q > 63
        · exact .inr h2
        · simp [Bright_1, h1, h2] at ht'
    have e1 : WB_1 ⟨#[62, 62]⟩ p q = 2 := by
      show Bright_1 p q = 2
      rcases hr with h | h
      · simp [Bright_1, h]
      · have n1 : ¬ q < 0 := by omega
        simp [Bright_1, n1, h]
    have e2 : Traps ⟨#[62, 62]⟩ A B C D = 2 := by
      have ke : Traps ⟨#[62, 62]⟩ A B C D = (bif Empty A B then (0 : Int) else (bif Empty C D then 0 else (bif !In C D 0 63 then 2 else 0))) := by kernel_rfl
      rw [ke]
      have hI : In C D 0 63 = false := by rw [Bool.eq_false_iff]; intro h; rw [inI] at h; omega
      rw [bif_f (empF.2 (by omega)), bif_f (empF.2 (by omega)), hI]; rfl
    rw [e1, e2]
theorem snd_Badd {A B C D p q : Int} (rA : Rg A) (rB : Rg B) (rC : Rg C) (rD : Rg D) : Snd A B C D p q ⟨#[43]⟩ := by
  refine ⟨fun h => ⟨wrapE (y := 0) h 1, wrapE (y := 0) h 0⟩, fun hp hq => ⟨fun ht => ?_, fun ht => ?_⟩⟩
  · exact wrapS (f1 := Badd_1) (f0 := Badd_0) hp hq ht (has_add rA rB rC rD hp hq)
  · exact absurd rfl ht
theorem snd_Bsub {A B C D p q : Int} (rA : Rg A) (rB : Rg B) (rC : Rg C) (rD : Rg D) : Snd A B C D p q ⟨#[45]⟩ := by
  refine ⟨fun h => ⟨wrapE (y := 0) h 1, wrapE (y := 0) h 0⟩, fun hp hq => ⟨fun ht => ?_, fun ht => ?_⟩⟩
  · exact wrapS (f1 := Bsub_1) (f0 := Bsub_0) hp hq ht (has_sub rA rB rC rD hp hq)
  · exact absurd rfl ht
theorem snd_Bmul {A B C D p q : Int} (rA : Rg A) (rB : Rg B) (rC : Rg C) (rD : Rg D) : Snd A B C D p q ⟨#[42]⟩ := by
  refine ⟨fun h => ⟨wrapE (y := 0) h 1, wrapE (y := 0) h 0⟩, fun hp hq => ⟨fun ht => ?_, fun ht => ?_⟩⟩
  · exact wrapS (f1 := Bmul_1) (f0 := Bmul_0) hp hq ht (has_mul rA rB rC rD hp hq)
  · exact absurd rfl ht
theorem snd_Bquo {A B C D p q : Int} (rA : Rg A) (rB : Rg B) (rC : Rg C) (rD : Rg D) : Snd A B C D p q ⟨#[47]⟩ := by
  refine ⟨fun h => ⟨wrapE (y := 0) h 1, wrapE (y := 0) h 0⟩, fun hp hq => ⟨fun ht => ?_, fun ht => ?_⟩⟩
  · have h0 : q ≠ 0 := by
      intro h; subst h
      exact absurd (show (1 : Int) = 0 from ht) (by decide)
    have e : Bquo_0 p q = S.q p q := by
      have : (q == 0) = false := by simpa using h0
      simp only [Bquo_0, this, cond_false]
    exact wrapS (f1 := Bquo_1) (f0 := Bquo_0) hp hq ht (by rw [e]; exact has_quo rA rB rC rD hp hq h0)
  · have h0 : q = 0 := by
      refine Classical.byContradiction fun h => ht ?_
      show Bquo_1 p q = 0
      have : (q == 0) = false := by simpa using h
      simp only [Bquo_1, this, cond_false]
    subst h0
    have e2 : Traps ⟨#[47]⟩ A B C D = 1 := by
      have ke : Traps ⟨#[47]⟩ A B C D = (bif Empty A B then (0 : Int) else (bif Empty C D then 0 else (bif Has C D 0 then 1 else 0))) := by kernel_rfl
      rw [ke]
      have hI : Has C D 0 = true := by rw [hasI]; exact hq
      rw [bif_f (empF.2 (by omega)), bif_f (empF.2 (by omega)), hI]; rfl
    rw [e2]; rfl
theorem snd_Brem {A B C D p q : Int} (rA : Rg A) (rB : Rg B) (rC : Rg C) (rD : Rg D) : Snd A B C D p q ⟨#[37]⟩ := by
  refine ⟨fun h => ⟨wrapE (y := 0) h 1, wrapE (y := 0) h 0⟩, fun hp hq => ⟨fun ht => ?_, fun ht => ?_⟩⟩
  · have h0 : q ≠ 0 := by
      intro h; subst h
      exact absurd (show (1 : Int) = 0 from ht) (by decide)
    have e : Brem_0 p q = S.r p q := by
      have : (q == 0) = false := by simpa using h0
      simp only [Brem_0, this, cond_false]
    exact wrapS (f1 := Bquo_1) (f0 := Brem_0) hp hq ht (by rw [e]; exact has_rest rA rB rC rD hp hq h0)
  · have h0 : q = 0 := by
      refine Classical.byContradiction fun h => ht ?_
      show Bquo_1 p q = 0
      have : (q == 0) = false := by simpa using h
      simp only [Bquo_1, this, cond_false]
    subst h0
    have e2 : Traps ⟨#[37]⟩ A B C D = 1 := by
      have ke : Traps ⟨#[37]⟩ A B C D = (bif Empty A B then (0 : Int) else (bif Empty C D then 0 else (bif Has C D 0 then 1 else 0))) := by kernel_rfl
      rw [ke]
      have hI : Has C D 0 = true := by rw [hasI]; exact hq
      rw [bif_f (empF.2 (by omega)), bif_f (empF.2 (by omega)), hI]; rfl
    rw [e2]; rfl
theorem snd_all {A B C D p q : Int} (rA : Rg A) (rB : Rg B) (rC : Rg C) (rD : Rg D) {t : ByteArray} {k : Int} (hk : 0 ≤ k) (hk' : k ≤ 255) : Snd A B C D p q (S.op t (Int.tmod k 180)) :=
  op_ind hk hk' (snd_Bone rA rB rC rD) (snd_Bboth rA rB rC rD) (snd_Bor rA rB rC rD) (snd_Bxor rA rB rC rD) (snd_Band rA rB rC rD) (snd_Beq rA rB rC rD) (snd_Bne rA rB rC rD) (snd_Blt rA rB rC rD) (snd_Ble rA rB rC rD) (snd_Bgt rA rB rC rD) (snd_Bge rA rB rC rD) (snd_Bleft rA rB rC rD) (snd_Bright rA rB rC rD) (snd_Badd rA rB rC rD) (snd_Bsub rA rB rC rD) (snd_Bmul rA rB rC rD) (snd_Bquo rA rB rC rD) (snd_Brem rA rB rC rD)
end S
