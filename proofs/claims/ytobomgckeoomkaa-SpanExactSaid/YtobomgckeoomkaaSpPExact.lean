import Derived.Test.YtobomgckeoomkaaSpLExact
import Derived.Test.YtobomgckeoomkaaSpU
set_option linter.unusedVariables false
set_option linter.unusedSimpArgs false
open Go Go.Im
namespace S
theorem single {a b : Int} {f1 f0 : Int → Int → Int} {g : Int} (z : Int) : (bif Empty a a then z else (bif Empty b b then z else (bif One_1 a a then (bif One_1 b b then (bif f1 (One_0 a a) (One_0 b b) != 0 then z else f0 (One_0 a a) (One_0 b b)) else g) else g))) = bif f1 a b != 0 then z else f0 a b := by
  have o : One_0 a a = a := one0 rfl
  have o' : One_0 b b = b := one0 rfl
  rw [bif_f (empF.2 (Int.le_refl a)), bif_f (empF.2 (Int.le_refl b)), one1, one1, o, o', decide_eq_true rfl, decide_eq_true rfl]
  rfl
/-- Of two numbers alone. -/
def Sng (a b : Int) (o : ByteArray) : Prop := SB_0 o a a b b = (bif WB_1 o a b != 0 then 1 else WB_0 o a b) ∧ SB_1 o a a b b = (bif WB_1 o a b != 0 then 0 else WB_0 o a b)
theorem sng_Bone (a b : Int) : Sng a b ⟨#[124, 124]⟩ := ⟨single (f1 := Bone_1) (f0 := Bone_0) 1, single (f1 := Bone_1) (f0 := Bone_0) 0⟩
theorem sng_Bboth (a b : Int) : Sng a b ⟨#[38, 38]⟩ := ⟨single (f1 := Bboth_1) (f0 := Bboth_0) 1, single (f1 := Bboth_1) (f0 := Bboth_0) 0⟩
theorem sng_Bor (a b : Int) : Sng a b ⟨#[124]⟩ := ⟨single (f1 := Bor_1) (f0 := Bor_0) 1, single (f1 := Bor_1) (f0 := Bor_0) 0⟩
theorem sng_Bxor (a b : Int) : Sng a b ⟨#[94]⟩ := ⟨single (f1 := Bxor_1) (f0 := Bxor_0) 1, single (f1 := Bxor_1) (f0 := Bxor_0) 0⟩
theorem sng_Band (a b : Int) : Sng a b ⟨#[38]⟩ := ⟨single (f1 := Band_1) (f0 := Band_0) 1, single (f1 := Band_1) (f0 := Band_0) 0⟩
theorem sng_Beq (a b : Int) : Sng a b ⟨#[61, 61]⟩ := ⟨single (f1 := Beq_1) (f0 := Beq_0) 1, single (f1 := Beq_1) (f0 := Beq_0) 0⟩
theorem sng_Bne (a b : Int) : Sng a b ⟨#[33, 61]⟩ := ⟨single (f1 := Bne_1) (f0 := Bne_0) 1, single (f1 := Bne_1) (f0 := Bne_0) 0⟩
theorem sng_Blt (a b : Int) : Sng a b ⟨#[60]⟩ := ⟨single (f1 := Blt_1) (f0 := Blt_0) 1, single (f1 := Blt_1) (f0 := Blt_0) 0⟩
theorem sng_Ble (a b : Int) : Sng a b ⟨#[60, 61]⟩ := ⟨single (f1 := Ble_1) (f0 := Ble_0) 1, single (f1 := Ble_1) (f0 := Ble_0) 0⟩
theorem sng_Bgt (a b : Int) : Sng a b ⟨#[62]⟩ := ⟨single (f1 := Bgt_1) (f0 := Bgt_0) 1, single (f1 := Bgt_1) (f0 := Bgt_0) 0⟩
theorem sng_Bge (a b : Int) : Sng a b ⟨#[62, 61]⟩ := ⟨single (f1 := Bge_1) (f0 := Bge_0) 1, single (f1 := Bge_1) (f0 := Bge_0) 0⟩
theorem sng_Bleft (a b : Int) : Sng a b ⟨#[60, 60]⟩ := ⟨single (f1 := Bleft_1) (f0 := Bleft_0) 1, single (f1 := Bleft_1) (f0 := Bleft_0) 0⟩
theorem sng_Bright (a b : Int) : Sng a b ⟨#[62, 62]⟩ := ⟨single (f1 := Bright_1) (f0 := Bright_0) 1, single (f1 := Bright_1) (f0 := Bright_0) 0⟩
theorem sng_Badd (a b : Int) : Sng a b ⟨#[43]⟩ := ⟨single (f1 := Badd_1) (f0 := Badd_0) 1, single (f1 := Badd_1) (f0 := Badd_0) 0⟩
theorem sng_Bsub (a b : Int) : Sng a b ⟨#[45]⟩ := ⟨single (f1 := Bsub_1) (f0 := Bsub_0) 1, single (f1 := Bsub_1) (f0 := Bsub_0) 0⟩
theorem sng_Bmul (a b : Int) : Sng a b ⟨#[42]⟩ := ⟨single (f1 := Bmul_1) (f0 := Bmul_0) 1, single (f1 := Bmul_1) (f0 := Bmul_0) 0⟩
theorem sng_Bquo (a b : Int) : Sng a b ⟨#[47]⟩ := ⟨single (f1 := Bquo_1) (f0 := Bquo_0) 1, single (f1 := Bquo_1) (f0 := Bquo_0) 0⟩
theorem sng_Brem (a b : Int) : Sng a b ⟨#[37]⟩ := ⟨single (f1 := Bquo_1) (f0 := Brem_0) 1, single (f1 := Bquo_1) (f0 := Brem_0) 0⟩
theorem sng_all (a b : Int) {t : ByteArray} {k : Int} (hk : 0 ≤ k) (hk' : k ≤ 255) : Sng a b (S.op t (Int.tmod k 180)) :=
  op_ind hk hk' (sng_Bone a b) (sng_Bboth a b) (sng_Bor a b) (sng_Bxor a b) (sng_Band a b) (sng_Beq a b) (sng_Bne a b) (sng_Blt a b) (sng_Ble a b) (sng_Bgt a b) (sng_Bge a b) (sng_Bleft a b) (sng_Bright a b) (sng_Badd a b) (sng_Bsub a b) (sng_Bmul a b) (sng_Bquo a b) (sng_Brem a b)
theorem exact_true (a b c d e : Int) (f : Bool) (g h i j : Int) (k : Bool) (l m : Int) (hc : 0 ≤ c ∧ c ≤ 255) : LExact a b c d e f g h i j k l m = true := by
  have mt : ∀ x y : Int, (Meet_0 x y (-9223372036854775808) 9223372036854775807 = 1 ∧ Meet_1 x y (-9223372036854775808) 9223372036854775807 = 0) ∨
      (Meet_0 x y (-9223372036854775808) 9223372036854775807 ≤ Meet_1 x y (-9223372036854775808) 9223372036854775807 ∧ Rg (Meet_0 x y (-9223372036854775808) 9223372036854775807) ∧ Rg (Meet_1 x y (-9223372036854775808) 9223372036854775807)) := by
    intro x y
    simp only [meet0, meet1, Rg]
    split <;> omega
  have hP := mt (rangespan_0 d e f g h) (rangespan_1 d e f g h)
  have hQ := mt (rangespan_0 i j k l m) (rangespan_1 i j k l m)
  unfold LExact
  generalize Meet_0 (rangespan_0 d e f g h) (rangespan_1 d e f g h) (-9223372036854775808) 9223372036854775807 = P at *
  generalize Meet_1 (rangespan_0 d e f g h) (rangespan_1 d e f g h) (-9223372036854775808) 9223372036854775807 = P' at *
  generalize Meet_0 (rangespan_0 i j k l m) (rangespan_1 i j k l m) (-9223372036854775808) 9223372036854775807 = Q at *
  generalize Meet_1 (rangespan_0 i j k l m) (rangespan_1 i j k l m) (-9223372036854775808) 9223372036854775807 = Q' at *
  have hs := sng_all a b (t := ⟨#[63]⟩) hc.1 hc.2
  generalize S.op ⟨#[63]⟩ (Int.tmod c 180) = o at *
  have f1 : (WB_1 o a b == 0) = true → is (SB_0 o (Of_0 a) (Of_1 a) (Of_0 b) (Of_1 b)) (SB_1 o (Of_0 a) (Of_1 a) (Of_0 b) (Of_1 b)) (Of_0 (WB_0 o a b)) (Of_1 (WB_0 o a b)) = true := by
    intro hw
    simp only [Of_0, Of_1]
    rw [isI, hs.1, hs.2, bif_f (by simpa using hw), bif_f (by simpa using hw)]
    exact ⟨rfl, rfl⟩
  have f2 : (WB_1 o a b == 0) = false → Empty (SB_0 o (Of_0 a) (Of_1 a) (Of_0 b) (Of_1 b)) (SB_1 o (Of_0 a) (Of_1 a) (Of_0 b) (Of_1 b)) = true := by
    intro hw
    simp only [Of_0, Of_1]
    rw [hs.1, hs.2, bif_t (by simpa using hw), bif_t (by simpa using hw)]
    rfl
  have f3 : Empty (SB_0 ⟨#[63]⟩ P P' Q Q') (SB_1 ⟨#[63]⟩ P P' Q Q') = true := rfl
  have f4 : Empty (Uplus_0 P P') (Uplus_1 P P') = true := rfl
  have f5 : Empty P P' = false → Empty Q Q' = false → Has (SB_0 ⟨#[43]⟩ P P' Q Q') (SB_1 ⟨#[43]⟩ P P' Q Q') (WB_0 ⟨#[43]⟩ P Q) = true ∧ Has (SB_0 ⟨#[43]⟩ P P' Q Q') (SB_1 ⟨#[43]⟩ P P' Q Q') (WB_0 ⟨#[43]⟩ P' Q') = true := by
    intro e1 e2
    rw [empF] at e1 e2
    rcases hP with ⟨rfl, rfl⟩ | ⟨p1, p2, p3⟩
    · omega
    rcases hQ with ⟨rfl, rfl⟩ | ⟨q1, q2, q3⟩
    · omega
    exact ⟨((snd_Badd p2 p3 q2 q3).2 ⟨Int.le_refl _, p1⟩ ⟨Int.le_refl _, q1⟩).1 rfl, ((snd_Badd p2 p3 q2 q3).2 ⟨p1, Int.le_refl _⟩ ⟨q1, Int.le_refl _⟩).1 rfl⟩
  have wn : (WB_1 o a b != 0) = !(WB_1 o a b == 0) := rfl
  rw [wn] at *
  simp only [f3, f4]
  clear hs hP hQ mt f3 f4 wn
  generalize (WB_1 o a b == 0) = w at *
  generalize is (SB_0 o (Of_0 a) (Of_1 a) (Of_0 b) (Of_1 b)) (SB_1 o (Of_0 a) (Of_1 a) (Of_0 b) (Of_1 b)) (Of_0 (WB_0 o a b)) (Of_1 (WB_0 o a b)) = x1 at *
  generalize Empty (SB_0 o (Of_0 a) (Of_1 a) (Of_0 b) (Of_1 b)) (SB_1 o (Of_0 a) (Of_1 a) (Of_0 b) (Of_1 b)) = x2 at *
  generalize Has (SB_0 ⟨#[43]⟩ P P' Q Q') (SB_1 ⟨#[43]⟩ P P' Q Q') (WB_0 ⟨#[43]⟩ P Q) = x3 at *
  generalize Has (SB_0 ⟨#[43]⟩ P P' Q Q') (SB_1 ⟨#[43]⟩ P P' Q Q') (WB_0 ⟨#[43]⟩ P' Q') = x4 at *
  generalize Empty P P' = y1 at *
  generalize Empty Q Q' = y2 at *
  revert f1 f2 f5
  revert w x1 x2 x3 x4 y1 y2
  decide
end S
theorem S.exact_says (a b c d e : Int) (f : Bool) (g h i j : Int) (k : Bool) (l m : Int) : Sim Go.Proofs.Try.prog 7 [.int true .i64 a, .int true .i64 b, .int true .u8 c, .agg [.int true .i64 d, .int true .i64 e, .bool true f, .int true .u8 g, .int true .u8 h], .agg [.int true .i64 i, .int true .i64 j, .bool true k, .int true .u8 l, .int true .u8 m]] [] (.bool true true) [] :=
  Sim.rng fun hr => (S.LExact_sim a b c d e f g h i j k l m).says (Says.bool (by
    simp only [rngL, rngV, kLo, kHi] at hr
    exact S.exact_true a b c d e f g h i j k l m (by omega)))
