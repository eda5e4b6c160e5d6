/- Eval: EvalNames, of all lists and places. -/
import Derived.Test.YtalnancndjgmgaaGreatDoorEvC
namespace Go.Im
set_option linter.unusedVariables false
theorem yl_map (l : List Int) : yl (l.map (V.int true .i64)) = (l.take 5).map (V.int true .i64) := by
  unfold yl
  simp only [List.length_map, Int.toNat_zero, List.drop_zero, Nat.sub_zero, ← List.map_take]
  congr 1
  split
  · rfl
  · rename_i h
    rw [List.take_of_length_le (by omega), List.take_of_length_le (by omega)]
theorem inK_len {n : Nat} (h : n ≤ 9223372036854775807) : inK .i64 (n : Int) = true := by
  show (decide ((-9223372036854775808 : Int) ≤ n) && decide ((n : Int) ≤ 9223372036854775807)) = true
  simp only [Bool.and_eq_true, decide_eq_true_eq]
  omega
theorem ask0 (l : List Int) (h : l.length ≤ 9223372036854775807) : Ask0 (l.map (V.int true .i64)) where
  k := by rw [List.length_map]; exact inK_len h
  c := by
    simp only [List.length_map, Bool.and_eq_true, decide_eq_true_eq]
    refine ⟨⟨by omega, ?_⟩, ?_⟩ <;> split <;> omega
  e := fun e he => by
    obtain ⟨x, _, rfl⟩ := List.mem_map.1 he
    rfl
  y := by rw [yl_map, List.length_map]; exact inK_len (by rw [List.length_take]; omega)
abbrev LawN (xs : List V) (i : V) : Prop := Sim Go.Proofs.Tryz.prog 6 [.isl true xs, i] [] (.bool false true) []
theorem at_of {xs : List V} {i k : Int} (h : LawN xs (.int false .i64 k)) (hk : i = k) : LawN xs (.int true .i64 i) :=
  Sim.args h (.cons (Says.refl _) (.cons (Says.int hk) .nil))
theorem ways {xs : List V} (i : Int) (h0 : LawN xs (.int false .i64 0)) (h1 : LawN xs (.int false .i64 1)) (h2 : LawN xs (.int false .i64 2))
    (hlt : decide (i < 0) = true → decide (i ≥ 0) = false → LawN xs (.int true .i64 i))
    (hge : decide (i < 0) = false → decide (i ≥ 0) = true → decide (i ≥ 3) = true → (false == decide (i < 3)) = true → LawN xs (.int true .i64 i)) : LawN xs (.int true .i64 i) := by
  rcases Int.lt_or_le i 0 with h | h
  · exact hlt (by simpa using h) (by simp; omega)
  · rcases Int.lt_or_le i 3 with h' | h'
    · have : i = 0 ∨ i = 1 ∨ i = 2 := by omega
      rcases this with e | e | e
      · exact at_of h0 e
      · exact at_of h1 e
      · exact at_of h2 e
    · exact hge (by simp; omega) (by simp; omega) (by simp; omega) (by simp; omega)
theorem ev_names (l : List Int) (h : l.length ≤ 9223372036854775807) (i : Int) : LawN (l.map (V.int true .i64)) (.int true .i64 i) := by
  have q := ask0 l h
  have hy := yl_map l
  match l, h with
  | [], _ =>
    have e : yl ([].map (V.int true .i64)) = [] := by rw [hy]; rfl
    have n0 := new0 (yl ([].map (V.int true .i64))) q.y (by rw [e]; rfl) (by rw [e]; rfl)
    have a0 : decide (((yl ([].map (V.int true .i64))).length : Int) > 0) = false := by rw [e]; rfl
    have a1 : decide (((yl ([].map (V.int true .i64))).length : Int) > 1) = false := by rw [e]; rfl
    exact ways i (law0_at0 _ q a0 a1 n0) (law0_at1 _ q a0 a1 n0) (law0_at2 _ q a0 a1 n0) (fun g1 g2 => law0_lt _ i q a0 a1 n0 g1 g2) (fun g1 g2 g3 g4 => law0_ge _ i q a0 a1 n0 g1 g2 g3 g4)
  | [p], _ =>
    have e : yl ([p].map (V.int true .i64)) = [.int true .i64 p] := by rw [hy]; rfl
    have r0 : inRange 0 (yl ([p].map (V.int true .i64))).length = true := by rw [e]; rfl
    have e0 : (yl ([p].map (V.int true .i64)))[(0 : Int).toNat]? = some (.int true .i64 p) := by rw [e]; rfl
    have n0 := new1 (yl ([p].map (V.int true .i64))) p q.y (by rw [e]; rfl) (by rw [e]; rfl) r0 e0
    have a0 : decide (((yl ([p].map (V.int true .i64))).length : Int) > 0) = true := by rw [e]; rfl
    have a1 : decide (((yl ([p].map (V.int true .i64))).length : Int) > 1) = false := by rw [e]; rfl
    exact ways i (law1_at0 _ p q a0 a1 r0 e0 n0) (law1_at1 _ p q a0 a1 r0 e0 n0) (law1_at2 _ p q a0 a1 r0 e0 n0) (fun g1 g2 => law1_lt _ p i q a0 a1 r0 e0 n0 g1 g2) (fun g1 g2 g3 g4 => law1_ge _ p i q a0 a1 r0 e0 n0 g1 g2 g3 g4)
  | p :: a :: r, h =>
    have e : yl ((p :: a :: r).map (V.int true .i64)) = .int true .i64 p :: .int true .i64 a :: (r.take 3).map (V.int true .i64) := by rw [hy]; rfl
    have r0 : inRange 0 (yl ((p :: a :: r).map (V.int true .i64))).length = true := by rw [e]; simp [inRange]; omega
    have e0 : (yl ((p :: a :: r).map (V.int true .i64)))[(0 : Int).toNat]? = some (.int true .i64 p) := by rw [e]; rfl
    have r1 : inRange 1 (yl ((p :: a :: r).map (V.int true .i64))).length = true := by rw [e]; simp [inRange]; omega
    have e1 : (yl ((p :: a :: r).map (V.int true .i64)))[(1 : Int).toNat]? = some (.int true .i64 a) := by rw [e]; rfl
    have n0 := new2 (yl ((p :: a :: r).map (V.int true .i64))) p a q.y (by rw [e]; simp; omega) (by rw [e]; simp; omega) r0 e0 r1 e1
    have a0 : decide (((yl ((p :: a :: r).map (V.int true .i64))).length : Int) > 0) = true := by rw [e]; simp; omega
    have a1 : decide (((yl ((p :: a :: r).map (V.int true .i64))).length : Int) > 1) = true := by rw [e]; simp; omega
    exact ways i (law2_at0 _ p a q a0 a1 r0 e0 r1 e1 n0) (law2_at1 _ p a q a0 a1 r0 e0 r1 e1 n0) (law2_at2 _ p a q a0 a1 r0 e0 r1 e1 n0) (fun g1 g2 => law2_lt _ p a i q a0 a1 r0 e0 r1 e1 n0 g1 g2) (fun g1 g2 g3 g4 => law2_ge _ p a i q a0 a1 r0 e0 r1 e1 n0 g1 g2 g3 g4)
end Go.Im
