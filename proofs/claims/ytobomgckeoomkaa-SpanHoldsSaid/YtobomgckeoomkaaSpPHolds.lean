import Derived.Test.YtobomgckeoomkaaSpLHolds
import Derived.Test.YtobomgckeoomkaaSpU
set_option linter.unusedVariables false
set_option linter.unusedSimpArgs false
open Go Go.Im
namespace S
variable {a b p : Int}
theorem has_neg (ra : Rg a) (rb : Rg b) (hp : a ≤ p ∧ p ≤ b) : Has (Uneg_0 a b) (Uneg_1 a b) (wneg_0 p) = true := by
  have e : wneg_0 p = IntKind.wrap .i64 (0 - p) := rfl
  rw [e]
  simp only [Uneg_0, Uneg_1, bif_f (empF.2 (show a ≤ b by omega)), one1]
  by_cases h : a = b
  · have o : One_0 a b = p := by rw [one0 h]; omega
    rw [decide_eq_true h, o]; simp only [cond_true, Of_0, Of_1, hasI]; exact ⟨Int.le_refl _, Int.le_refl _⟩
  · rw [decide_eq_false h]
    simp only [cond_false]
    by_cases h0 : a = -9223372036854775808
    · rw [bif_t (by simpa using h0), bif_t (by simpa using h0)]; exact has_top (wI_rg _)
    · rw [bif_f (by simpa using h0), bif_f (by simpa using h0), hasI]
      simp only [Rg] at *
      rw [wI_id (by omega) (by omega), wI_id (by omega) (by omega), wI_id (by omega) (by omega)]
      omega
theorem has_not (ra : Rg a) (rb : Rg b) (hp : a ≤ p ∧ p ≤ b) : Has (Unot_0 a b) (Unot_1 a b) (wnot_0 p) = true := by
  have rp : Rg p := by simp only [Rg] at *; omega
  have e : wnot_0 p = -1 - p := not64 rp
  have e0 : Unot_0 a b = -1 - b := by simp only [Unot_0, bif_f (empF.2 (show a ≤ b by omega))]; exact not64 rb
  have e1 : Unot_1 a b = -1 - a := by simp only [Unot_1, bif_f (empF.2 (show a ≤ b by omega))]; exact not64 ra
  rw [e, e0, e1, hasI]; omega
theorem has_bang (hp : a ≤ p ∧ p ≤ b) : Has (Ubang_0 a b) (Ubang_1 a b) (wbang_0 p) = true := by
  have e : wbang_0 p = if p = 0 then 1 else 0 := by
    have : wbang_0 p = wbit (p == 0) := rfl
    rw [this]
    by_cases h : p = 0 <;> simp [wbit, h, Bool.cond_eq_ite]
  have t0 := truth0 (show a ≤ b by omega)
  have t1 := truth1 (show a ≤ b by omega)
  simp only [Ubang_0, Ubang_1, bif_f (empF.2 (show a ≤ b by omega))]
  rw [wI_id (by rw [t1]; split <;> omega) (by rw [t1]; split <;> omega), wI_id (by rw [t0]; split <;> omega) (by rw [t0]; split <;> omega), t0, t1, e, hasI]
  (repeat' split) <;> omega
theorem holds_true (a b : Int) (c : Bool) (d e f g : Int) (h : Bool) (i j k l m : Int) (ha : Rg a) (hb : Rg b) (hf : Rg f) (hg : Rg g) (hk : 0 ≤ k ∧ k ≤ 255) (hl : 0 ≤ l ∧ l ≤ 18446744073709551615) (hm : 0 ≤ m ∧ m ≤ 18446744073709551615) : LHolds a b c d e f g h i j k l m = true := by
  obtain ⟨rA, rB⟩ := range_rg (c := c) (d := d) (e := e) ha hb
  obtain ⟨rC, rD⟩ := range_rg (c := h) (d := i) (e := j) hf hg
  unfold LHolds
  generalize rangespan_0 a b c d e = A at *
  generalize rangespan_1 a b c d e = B at *
  generalize rangespan_0 f g h i j = C at *
  generalize rangespan_1 f g h i j = D at *
  have hP : A ≤ B → A ≤ pick A B l ∧ pick A B l ≤ B := fun x => pick_has x rA rB hl.1 hl.2
  have hQ : C ≤ D → C ≤ pick C D m ∧ pick C D m ≤ D := fun x => pick_has x rC rD hm.1 hm.2
  generalize pick A B l = P at *
  generalize pick C D m = Q at *
  have hs := snd_all (A := A) (B := B) (C := C) (D := D) (p := P) (q := Q) rA rB rC rD (t := ⟨#[63]⟩) hk.1 hk.2
  generalize S.op ⟨#[63]⟩ (Int.tmod k 180) = o at *
  obtain ⟨s1, s2⟩ := hs
  by_cases e1 : B < A
  · rw [bif_t (empT.2 e1), (s1 (.inl e1)).1, (s1 (.inl e1)).2]; rfl
  · by_cases e2 : D < C
    · rw [bif_f (empF.2 (by omega)), bif_t (empT.2 e2), (s1 (.inr e2)).1, (s1 (.inr e2)).2]; rfl
    · have hp := hP (by omega)
      have hq := hQ (by omega)
      obtain ⟨g1, g2⟩ := s2 hp hq
      rw [bif_f (empF.2 (by omega)), bif_f (empF.2 (by omega))]
      by_cases ht : WB_1 o P Q = 0
      · rw [bif_f (by simpa using ht), g1 ht, has_neg rA rB hp, has_not rA rB hp, has_bang hp]; rfl
      · rw [bif_t (by simpa using ht), g2 ht]; simp
end S
theorem S.holds_says (a b : Int) (c : Bool) (d e f g : Int) (h : Bool) (i j k l m : Int) : Sim Go.Proofs.Try.prog 9 [.agg [.int true .i64 a, .int true .i64 b, .bool true c, .int true .u8 d, .int true .u8 e], .agg [.int true .i64 f, .int true .i64 g, .bool true h, .int true .u8 i, .int true .u8 j], .int true .u8 k, .int true .u64 l, .int true .u64 m] [] (.bool true true) [] :=
  Sim.rng fun hr => (S.LHolds_sim a b c d e f g h i j k l m).says (Says.bool (by
    simp only [rngL, rngV, kLo, kHi] at hr
    exact S.holds_true a b c d e f g h i j k l m (by simp only [S.Rg]; omega) (by simp only [S.Rg]; omega) (by simp only [S.Rg]; omega) (by simp only [S.Rg]; omega) (by omega) (by omega) (by omega)))
