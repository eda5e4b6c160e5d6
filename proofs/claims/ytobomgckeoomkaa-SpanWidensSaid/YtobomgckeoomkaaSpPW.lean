/- Widened by one number after another a span turns 15 times at most. -/
import Derived.Test.YtobomgckeoomkaaSpW
import Derived.Test.YtobomgckeoomkaaSpP
import Derived.Test.YtobomgckeoomkaaSpLawL
set_option linter.unusedVariables false
set_option linter.unusedSimpArgs false
open Go Go.Im
namespace S
def thL (x : Int) : Int := bif Int.toNat (Ilow x x) == 0 then (1 : Int) else (bif Int.toNat (Ilow x x) == 1 then (0) else (bif Int.toNat (Ilow x x) == 2 then (-1) else (bif Int.toNat (Ilow x x) == 3 then (-64) else (bif Int.toNat (Ilow x x) == 4 then (-1024) else (bif Int.toNat (Ilow x x) == 5 then (-65536) else (-9223372036854775808))))))
def thH (x : Int) : Int := bif Int.toNat (Ihigh x x) == 0 then (-1 : Int) else (bif Int.toNat (Ihigh x x) == 1 then (0) else (bif Int.toNat (Ihigh x x) == 2 then (1) else (bif Int.toNat (Ihigh x x) == 3 then (64) else (bif Int.toNat (Ihigh x x) == 4 then (1024) else (bif Int.toNat (Ihigh x x) == 5 then (65536) else (9223372036854775807))))))
theorem mem7 {c0 c1 c2 c3 c4 c5 : Bool} {v0 v1 v2 v3 v4 v5 v6 : Int} {v : Int} (h : v = bif c0 then v0 else (bif c1 then v1 else (bif c2 then v2 else (bif c3 then v3 else (bif c4 then v4 else (bif c5 then v5 else v6)))))) : v = v0 ∨ v = v1 ∨ v = v2 ∨ v = v3 ∨ v = v4 ∨ v = v5 ∨ v = v6 := by
  subst h
  cases c0
  · cases c1
    · cases c2
      · cases c3
        · cases c4
          · cases c5 <;> simp
          · simp
        · simp
      · simp
    · simp
  · simp
theorem thL_mem (x : Int) : thL x = 1 ∨ thL x = 0 ∨ thL x = -1 ∨ thL x = -64 ∨ thL x = -1024 ∨ thL x = -65536 ∨ thL x = -9223372036854775808 := mem7 rfl
theorem thH_mem (x : Int) : thH x = -1 ∨ thH x = 0 ∨ thH x = 1 ∨ thH x = 64 ∨ thH x = 1024 ∨ thH x = 65536 ∨ thH x = 9223372036854775807 := mem7 rfl
theorem thL_le {x : Int} (h : Rg x) : thL x ≤ x := wlow x x h.1
theorem thH_le {x : Int} (h : Rg x) : x ≤ thH x := whigh x x h.2
theorem widen_v {a b x : Int} (h : a ≤ b) : (a ≤ x ∧ x ≤ b → Widen_0 a b (Of_0 x) (Of_1 x) = a ∧ Widen_1 a b (Of_0 x) (Of_1 x) = b) ∧
    (¬ (a ≤ x ∧ x ≤ b) → Widen_0 a b (Of_0 x) (Of_1 x) = (if x < a then thL x else a) ∧ Widen_1 a b (Of_0 x) (Of_1 x) = (if x > b then thH x else b)) := by
  simp only [Of_0, Of_1]
  constructor
  · intro hx
    have hi : In x x a b = true := by rw [inI]; omega
    simp only [Widen_0, Widen_1, bif_f (empF.2 h), bif_t hi, join0 h (Int.le_refl x), join1 h (Int.le_refl x)]
    omega
  · intro hx
    have hi : In x x a b = false := by rw [Bool.eq_false_iff]; intro h'; rw [inI] at h'; omega
    simp only [Widen_0, Widen_1, bif_f (empF.2 h), bif_f hi, Bool.cond_eq_ite, decide_eq_true_eq, gt_iff_lt]
    simp only [thL, thH, Bool.cond_eq_ite]
    constructor <;> trivial
theorem widen_e {x : Int} : Widen_0 1 0 (Of_0 x) (Of_1 x) = x ∧ Widen_1 1 0 (Of_0 x) (Of_1 x) = x := by
  simp only [Of_0, Of_1, Widen_0, Widen_1, bif_t (show Empty 1 0 = true from rfl)]
  rw [join0E (by omega), join1E (by omega), if_neg (by omega), if_neg (by omega)]
  exact ⟨rfl, rfl⟩
def rkL (x : Int) : Int := (if 1 < x then 1 else 0) + (if 0 < x then 1 else 0) + (if -1 < x then 1 else 0) + (if -64 < x then 1 else 0) + (if -1024 < x then 1 else 0) + (if -65536 < x then 1 else 0) + (if -9223372036854775808 < x then 1 else 0)
def rkH (x : Int) : Int := (if x < -1 then 1 else 0) + (if x < 0 then 1 else 0) + (if x < 1 then 1 else 0) + (if x < 64 then 1 else 0) + (if x < 1024 then 1 else 0) + (if x < 65536 then 1 else 0) + (if x < 9223372036854775807 then 1 else 0)
theorem rkL_le (x : Int) : 0 ≤ rkL x ∧ rkL x ≤ 7 := by
  simp only [rkL]; constructor <;> (repeat' split) <;> omega
theorem rkH_le (x : Int) : 0 ≤ rkH x ∧ rkH x ≤ 7 := by
  simp only [rkH]; constructor <;> (repeat' split) <;> omega
theorem rkL_th {x a : Int} (hx : Rg x) (h : x < a) : rkL (thL x) + 1 ≤ rkL a := by
  have h1 := thL_le hx
  have h2 := thL_mem x
  generalize thL x = t at *
  simp only [rkL]
  rcases h2 with rfl | rfl | rfl | rfl | rfl | rfl | rfl <;> simp <;> (repeat' split) <;> omega
theorem rkH_th {x b : Int} (hx : Rg x) (h : b < x) : rkH (thH x) + 1 ≤ rkH b := by
  have h1 := thH_le hx
  have h2 := thH_mem x
  generalize thH x = t at *
  simp only [rkH]
  rcases h2 with rfl | rfl | rfl | rfl | rfl | rfl | rfl <;> simp <;> (repeat' split) <;> omega
def wInv (a b t : Int) : Prop := (a = 1 ∧ b = 0 ∧ t = 0) ∨ (a ≤ b ∧ 0 ≤ t ∧ t + rkL a + rkH b ≤ 15)
theorem wInv_step {a b t x : Int} (hx : Rg x) (h : wInv a b t) :
    Has (Widen_0 a b (Of_0 x) (Of_1 x)) (Widen_1 a b (Of_0 x) (Of_1 x)) x = true ∧ In a b (Widen_0 a b (Of_0 x) (Of_1 x)) (Widen_1 a b (Of_0 x) (Of_1 x)) = true ∧
      wInv (Widen_0 a b (Of_0 x) (Of_1 x)) (Widen_1 a b (Of_0 x) (Of_1 x)) (bif is a b (Widen_0 a b (Of_0 x) (Of_1 x)) (Widen_1 a b (Of_0 x) (Of_1 x)) then t else IntKind.wrap .i64 (t + 1)) := by
  rcases h with ⟨rfl, rfl, rfl⟩ | ⟨h, ht, hr⟩
  · have hs : is 1 0 x x = false := by rw [Bool.eq_false_iff]; intro h; rw [isI] at h; omega
    rw [widen_e.1, widen_e.2, hs, hasI, inI]
    have r1 := rkL_le x
    have r2 := rkH_le x
    have e : IntKind.wrap .i64 (0 + 1) = 1 := wI_id (by decide) (by decide)
    refine ⟨by omega, by omega, .inr ⟨by omega, ?_, ?_⟩⟩
    · simp only [cond_false, e]; omega
    · simp only [cond_false, e]; omega
  · obtain ⟨v1, v2⟩ := widen_v (x := x) h
    have b1 := rkL_le a
    have b2 := rkH_le b
    by_cases hx' : a ≤ x ∧ x ≤ b
    · have hs : is a b a b = true := by rw [isI]; exact ⟨rfl, rfl⟩
      rw [(v1 hx').1, (v1 hx').2, hs, hasI, inI]
      exact ⟨hx', by omega, .inr ⟨h, ht, hr⟩⟩
    · obtain ⟨e0, e1⟩ := v2 hx'
      have l1 := thL_le hx
      have l2 := thH_le hx
      have w : IntKind.wrap .i64 (t + 1) = t + 1 := wI_id (by omega) (by omega)
      by_cases hlo : x < a
      · have hhi : ¬ x > b := by omega
        rw [if_pos hlo] at e0
        rw [if_neg hhi] at e1
        have k := rkL_th hx hlo
        have hs : is a b (thL x) b = false := by rw [Bool.eq_false_iff]; intro h; rw [isI] at h; omega
        rw [e0, e1, hs, hasI, inI, w]
        exact ⟨by omega, by omega, .inr ⟨by omega, by simp only [cond_false]; omega, by simp only [cond_false]; omega⟩⟩
      · have hhi : x > b := by omega
        rw [if_neg hlo] at e0
        rw [if_pos hhi] at e1
        have k := rkH_th hx hhi
        have hs : is a b a (thH x) = false := by rw [Bool.eq_false_iff]; intro h; rw [isI] at h; omega
        rw [e0, e1, hs, hasI, inI, w]
        exact ⟨by omega, by omega, .inr ⟨by omega, by simp only [cond_false]; omega, by simp only [cond_false]; omega⟩⟩
theorem w_all : ∀ (l : List Int) (k : Nat) (a b t : Int), (∀ x ∈ l, Rg x) → wInv a b t → wOk l k a b ∧ (wRun l k a b t).2.2 ≤ 15
  | [], k, a, b, t, hx, h => by
    refine ⟨trivial, ?_⟩
    simp only [wRun]
    rcases h with ⟨_, _, rfl⟩ | ⟨_, _, h⟩
    · decide
    · have := rkL_le a; have := rkH_le b; omega
  | x :: r, 0, a, b, t, hx, h => by
    refine ⟨trivial, ?_⟩
    simp only [wRun]
    rcases h with ⟨_, _, rfl⟩ | ⟨_, _, h⟩
    · decide
    · have := rkL_le a; have := rkH_le b; omega
  | x :: r, k + 1, a, b, t, hx, h => by
    obtain ⟨g1, g2, g3⟩ := wInv_step (hx x (by simp)) h
    obtain ⟨i1, i2⟩ := w_all r k _ _ _ (fun y hy => hx y (by simp [hy])) g3
    exact ⟨⟨g1, g2, i1⟩, i2⟩
theorem w_start (a b : Int) (c : Bool) (d e : Int) : wInv (wM0 a b c d e) (wM1 a b c d e) 0 := by
  have : wM0 a b c d e = 1 ∧ wM1 a b c d e = 0 ∨ wM0 a b c d e ≤ wM1 a b c d e := by
    simp only [wM0, wM1, meet0, meet1]; split <;> omega
  rcases this with ⟨h1, h2⟩ | h
  · exact .inl ⟨h1, h2, rfl⟩
  · have r1 := rkL_le (wM0 a b c d e)
    have r2 := rkH_le (wM1 a b c d e)
    exact .inr ⟨h, by omega, by omega⟩
end S
theorem S.widens_says (a b : Int) (c : Bool) (d e : Int) (l : List Int) (hl : inK .i64 (l.length : Int) = true) (hx : ∀ x ∈ l, S.Rg x) : Sim Go.Proofs.Try.prog 6 [.agg [.int true .i64 a, .int true .i64 b, .bool true c, .int true .u8 d, .int true .u8 e], .isl true (l.map (V.int true .i64))] [] (.bool true true) [] := by
  obtain ⟨h1, h2⟩ := S.w_all l 60 _ _ 0 hx (S.w_start a b c d e)
  exact (S.widens_sim a b c d e l hl h1).says (Says.bool (decide_eq_true h2))
