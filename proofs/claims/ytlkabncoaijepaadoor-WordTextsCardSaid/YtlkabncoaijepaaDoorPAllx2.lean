-- PRINTED by print.py (a twelfth state) out of the translation. Not trusted: Lean checks it.
import Derived.Test.YtlkabncoaijepaaDoorPAllx0
import Derived.Test.YtlkabncoaijepaaDoorPAllx1
import Derived.Test.YtlkabncoaijepaaDoorExtEx
namespace Go.Proofs.YtlkabncoaijepaaDoor.PAll
open Go.RowKit Go.Proofs.YtlkabncoaijepaaDoorW.PrintWords Go.Proofs.YtlkabncoaijepaaDoorW.PrintLast Go.Proofs.YtlkabncoaijepaaDoorW.PrintMore
attribute [local go_sem] max2_int min2_int max_two min_two max_three min_three max_four min_four   -- for this text's walks alone
set_option linter.unusedVariables false
set_option linter.unusedSimpArgs false

open Go.Proofs.YtlkabncoaijepaaDoor.X
/-! ### billhookref01_Binary: function 15 -/
mutual
def billhookref01_Binary.j0 : Nat → ByteArray → Int → Int → ByteArray → Bool → Option (Int × Int)
  | 0, _, _, _, _, _ => none
  | k + 1, x0, x1, x2, x8, x93 => if x93 = true then (if x2 = 0 then (some (0, 1)) else (if x0.toList = ([47] : List UInt8) then (billhookref01_Binary.j1 k x0 x1 x2 (x2 == (-1))) else (billhookref01_Binary.j1 k x0 x1 x2 false))) else (if x8.toList = ([60, 60] : List UInt8) then (billhookref01_Binary.j2 k x0 x1 x2 (x8.toList == ([60, 60] : List UInt8))) else (billhookref01_Binary.j2 k x0 x1 x2 (x8.toList == ([62, 62] : List UInt8))))
def billhookref01_Binary.j1 : Nat → ByteArray → Int → Int → Bool → Option (Int × Int)
  | 0, _, _, _, _ => none
  | k + 1, x0, x1, x2, x103 => if x103 = true then (some (wrap64 (-x1), 0)) else (if x2 = (-1) then (some (0, 0)) else (if x0.toList = ([47] : List UInt8) then (if x2 = 0 then (none) else (some (wrap64 (Int.tdiv x1 x2), 0))) else (if x2 = 0 then (none) else (some (Int.tmod x1 x2, 0)))))
def billhookref01_Binary.j2 : Nat → ByteArray → Int → Int → Bool → Option (Int × Int)
  | 0, _, _, _, _ => none
  | k + 1, x0, x1, x2, x116 => if x116 = true then (if x2 < 0 then (billhookref01_Binary.j3 k x0 x1 x2 true) else (billhookref01_Binary.j3 k x0 x1 x2 (decide (x2 > 63)))) else (some (0, 0))
def billhookref01_Binary.j3 : Nat → ByteArray → Int → Int → Bool → Option (Int × Int)
  | 0, _, _, _, _ => none
  | k + 1, x0, x1, x2, x124 => if x124 = true then (some (0, 2)) else (if x0.toList = ([60, 60] : List UInt8) then (if 0 ≤ (IntKind.u64.wrap (x2)) then (some (shl .i64 x1 (IntKind.u64.wrap (x2)), 0)) else (none)) else (if 0 ≤ (IntKind.u64.wrap (x2)) then (some (shr .i64 x1 (IntKind.u64.wrap (x2)), 0)) else (none)))
end
def billhookref01_Binary.f (k : Nat) (a0 : ByteArray) (a1 : Int) (a2 : Int) : Option (Int × Int) := if a0.toList = ([43] : List UInt8) then (some (wrap64 (a1 + a2), 0)) else (if a0.toList = ([45] : List UInt8) then (some (wrap64 (a1 - a2), 0)) else (if a0.toList = ([42] : List UInt8) then (some (wrap64 (a1 * a2), 0)) else (if a0.toList = ([38] : List UInt8) then (some (Go.bits .and .i64 a1 a2, 0)) else (if a0.toList = ([124] : List UInt8) then (some (Go.bits .or .i64 a1 a2, 0)) else (if a0.toList = ([94] : List UInt8) then (some (Go.bits .xor .i64 a1 a2, 0)) else (if a0.toList = ([61, 61] : List UInt8) then ((billhookref01_bit.f (a1 == a2)).bind fun t112 => (some (t112, 0))) else (if a0.toList = ([33, 61] : List UInt8) then ((billhookref01_bit.f (a1 != a2)).bind fun t113 => (some (t113, 0))) else (if a0.toList = ([60] : List UInt8) then ((billhookref01_bit.f (decide (a1 < a2))).bind fun t114 => (some (t114, 0))) else (if a0.toList = ([60, 61] : List UInt8) then ((billhookref01_bit.f (decide (a1 ≤ a2))).bind fun t115 => (some (t115, 0))) else (if a0.toList = ([62] : List UInt8) then ((billhookref01_bit.f (decide (a1 > a2))).bind fun t116 => (some (t116, 0))) else (if a0.toList = ([62, 61] : List UInt8) then ((billhookref01_bit.f (decide (a1 ≥ a2))).bind fun t117 => (some (t117, 0))) else (if a0.toList = ([38, 38] : List UInt8) then (if a1 = 0 then ((billhookref01_bit.f false).bind fun t118 => (some (t118, 0))) else ((billhookref01_bit.f (a2 != 0)).bind fun t119 => (some (t119, 0)))) else (if a0.toList = ([124, 124] : List UInt8) then (if a1 = 0 then ((billhookref01_bit.f (a2 != 0)).bind fun t120 => (some (t120, 0))) else ((billhookref01_bit.f true).bind fun t121 => (some (t121, 0)))) else (if a0.toList = ([47] : List UInt8) then (billhookref01_Binary.j0 k a0 a1 a2 a0 (a0.toList == ([47] : List UInt8))) else (billhookref01_Binary.j0 k a0 a1 a2 a0 (a0.toList == ([37] : List UInt8)))))))))))))))))
theorem billhookref01_Binary.mono_l : ∀ k, (∀ y0 y1 y2 y3 y4, LeO (billhookref01_Binary.j0 k y0 y1 y2 y3 y4) (billhookref01_Binary.j0 (k + 1) y0 y1 y2 y3 y4)) ∧ (∀ y0 y1 y2 y3, LeO (billhookref01_Binary.j1 k y0 y1 y2 y3) (billhookref01_Binary.j1 (k + 1) y0 y1 y2 y3)) ∧ (∀ y0 y1 y2 y3, LeO (billhookref01_Binary.j2 k y0 y1 y2 y3) (billhookref01_Binary.j2 (k + 1) y0 y1 y2 y3)) ∧ (∀ y0 y1 y2 y3, LeO (billhookref01_Binary.j3 k y0 y1 y2 y3) (billhookref01_Binary.j3 (k + 1) y0 y1 y2 y3))
  | 0 => ⟨fun _ _ _ _ _ r h => by simp [billhookref01_Binary.j0] at h, fun _ _ _ _ r h => by simp [billhookref01_Binary.j1] at h, fun _ _ _ _ r h => by simp [billhookref01_Binary.j2] at h, fun _ _ _ _ r h => by simp [billhookref01_Binary.j3] at h⟩
  | k + 1 => by
    obtain ⟨ih0, ih1, ih2, ih3⟩ := billhookref01_Binary.mono_l k
    refine ⟨?_, ?_, ?_, ?_⟩
    · intro y0 y1 y2 y3 y4
      unfold billhookref01_Binary.j0
      repeat' first
      | (with_reducible exact ih0 _ _ _ _ _)
      | (with_reducible exact ih1 _ _ _ _)
      | (with_reducible exact ih2 _ _ _ _)
      | (with_reducible exact ih3 _ _ _ _)
      | (with_reducible exact LeO.refl _)
      | (with_reducible exact LeO.none _)
      | (with_reducible refine LeO.ite ?_ ?_)
      | (with_reducible refine LeO.bind ?_ (fun _ => ?_))
      | exact ih0 _ _ _ _ _
      | exact ih1 _ _ _ _
      | exact ih2 _ _ _ _
      | exact ih3 _ _ _ _
      | exact LeO.none _
      | refine LeO.ite ?_ ?_
      | refine LeO.bind ?_ (fun _ => ?_)
    · intro y0 y1 y2 y3
      unfold billhookref01_Binary.j1
      repeat' first
      | (with_reducible exact ih0 _ _ _ _ _)
      | (with_reducible exact ih1 _ _ _ _)
      | (with_reducible exact ih2 _ _ _ _)
      | (with_reducible exact ih3 _ _ _ _)
      | (with_reducible exact LeO.refl _)
      | (with_reducible exact LeO.none _)
      | (with_reducible refine LeO.ite ?_ ?_)
      | (with_reducible refine LeO.bind ?_ (fun _ => ?_))
      | exact ih0 _ _ _ _ _
      | exact ih1 _ _ _ _
      | exact ih2 _ _ _ _
      | exact ih3 _ _ _ _
      | exact LeO.none _
      | refine LeO.ite ?_ ?_
      | refine LeO.bind ?_ (fun _ => ?_)
    · intro y0 y1 y2 y3
      unfold billhookref01_Binary.j2
      repeat' first
      | (with_reducible exact ih0 _ _ _ _ _)
      | (with_reducible exact ih1 _ _ _ _)
      | (with_reducible exact ih2 _ _ _ _)
      | (with_reducible exact ih3 _ _ _ _)
      | (with_reducible exact LeO.refl _)
      | (with_reducible exact LeO.none _)
      | (with_reducible refine LeO.ite ?_ ?_)
      | (with_reducible refine LeO.bind ?_ (fun _ => ?_))
      | exact ih0 _ _ _ _ _
      | exact ih1 _ _ _ _
      | exact ih2 _ _ _ _
      | exact ih3 _ _ _ _
      | exact LeO.none _
      | refine LeO.ite ?_ ?_
      | refine LeO.bind ?_ (fun _ => ?_)
    · intro y0 y1 y2 y3
      unfold billhookref01_Binary.j3
      repeat' first
      | (with_reducible exact ih0 _ _ _ _ _)
      | (with_reducible exact ih1 _ _ _ _)
      | (with_reducible exact ih2 _ _ _ _)
      | (with_reducible exact ih3 _ _ _ _)
      | (with_reducible exact LeO.refl _)
      | (with_reducible exact LeO.none _)
      | (with_reducible refine LeO.ite ?_ ?_)
      | (with_reducible refine LeO.bind ?_ (fun _ => ?_))
      | exact ih0 _ _ _ _ _
      | exact ih1 _ _ _ _
      | exact ih2 _ _ _ _
      | exact ih3 _ _ _ _
      | exact LeO.none _
      | refine LeO.ite ?_ ?_
      | refine LeO.bind ?_ (fun _ => ?_)
theorem billhookref01_Binary.mono : ∀ a0 a1 a2 k, LeO (billhookref01_Binary.f k a0 a1 a2) (billhookref01_Binary.f (k + 1) a0 a1 a2) := by
  intro a0 a1 a2 k
  obtain ⟨ih0, ih1, ih2, ih3⟩ := billhookref01_Binary.mono_l k
  unfold billhookref01_Binary.f
  repeat' first
      | (with_reducible exact ih0 _ _ _ _ _)
      | (with_reducible exact ih1 _ _ _ _)
      | (with_reducible exact ih2 _ _ _ _)
      | (with_reducible exact ih3 _ _ _ _)
      | (with_reducible exact LeO.refl _)
      | (with_reducible exact LeO.none _)
      | (with_reducible refine LeO.ite ?_ ?_)
      | (with_reducible refine LeO.bind ?_ (fun _ => ?_))
      | exact ih0 _ _ _ _ _
      | exact ih1 _ _ _ _
      | exact ih2 _ _ _ _
      | exact ih3 _ _ _ _
      | exact LeO.none _
      | refine LeO.ite ?_ ?_
      | refine LeO.bind ?_ (fun _ => ?_)
set_option maxHeartbeats 8000000 in
set_option maxRecDepth 100000 in
theorem billhookref01_Binary.calls (k : Nat) (a0 : ByteArray) (a1 : Int) (a2 : Int) (r1 : Int) (r2 : Int) (w : World) (h : billhookref01_Binary.f k a0 a1 a2 = some (r1, r2)) :
    Calls Tryd.prog 15 #[.string a0, .int .i64 a1, .int .i64 a2] w fun e w' => e = .returned (.tuple #[.int .i64 r1, .int .i64 r2]) ∧ Drawn0 w w' := by
  have H : (if a0.toList = ([43] : List UInt8) then (some (wrap64 (a1 + a2), 0)) else (if a0.toList = ([45] : List UInt8) then (some (wrap64 (a1 - a2), 0)) else (if a0.toList = ([42] : List UInt8) then (some (wrap64 (a1 * a2), 0)) else (if a0.toList = ([38] : List UInt8) then (some (Go.bits .and .i64 a1 a2, 0)) else (if a0.toList = ([124] : List UInt8) then (some (Go.bits .or .i64 a1 a2, 0)) else (if a0.toList = ([94] : List UInt8) then (some (Go.bits .xor .i64 a1 a2, 0)) else (if a0.toList = ([61, 61] : List UInt8) then ((billhookref01_bit.f (a1 == a2)).bind fun t112 => (some (t112, 0))) else (if a0.toList = ([33, 61] : List UInt8) then ((billhookref01_bit.f (a1 != a2)).bind fun t113 => (some (t113, 0))) else (if a0.toList = ([60] : List UInt8) then ((billhookref01_bit.f (decide (a1 < a2))).bind fun t114 => (some (t114, 0))) else (if a0.toList = ([60, 61] : List UInt8) then ((billhookref01_bit.f (decide (a1 ≤ a2))).bind fun t115 => (some (t115, 0))) else (if a0.toList = ([62] : List UInt8) then ((billhookref01_bit.f (decide (a1 > a2))).bind fun t116 => (some (t116, 0))) else (if a0.toList = ([62, 61] : List UInt8) then ((billhookref01_bit.f (decide (a1 ≥ a2))).bind fun t117 => (some (t117, 0))) else (if a0.toList = ([38, 38] : List UInt8) then (if a1 = 0 then ((billhookref01_bit.f false).bind fun t118 => (some (t118, 0))) else ((billhookref01_bit.f (a2 != 0)).bind fun t119 => (some (t119, 0)))) else (if a0.toList = ([124, 124] : List UInt8) then (if a1 = 0 then ((billhookref01_bit.f (a2 != 0)).bind fun t120 => (some (t120, 0))) else ((billhookref01_bit.f true).bind fun t121 => (some (t121, 0)))) else (if a0.toList = ([47] : List UInt8) then (billhookref01_Binary.j0 k a0 a1 a2 a0 (a0.toList == ([47] : List UInt8))) else (billhookref01_Binary.j0 k a0 a1 a2 a0 (a0.toList == ([37] : List UInt8)))))))))))))))))) = some (r1, r2) := h
  clear h
  by_cases c4 : a0.toList = ([43] : List UInt8)
  · rw [if_pos c4] at H
    have c4b0 : (a0.toList == ([43] : List UInt8)) = true := beq_iff_eq.mpr c4
    have c4b1 : (a0.toList != ([43] : List UInt8)) = false := bne_eq_false_iff_eq.mpr c4
    clear c4
    simp only [Option.some.injEq, Prod.mk.injEq] at H
    obtain ⟨rfl, rfl⟩ := H
    go_enter Tryd.func15, Tryd.ntmps15
    go_wp2
    go_ret2
    exact ⟨by first | rfl | (simp; done) | (simp [*]; done), by repeat (first | exact Drawn0.refl _ | apply Drawn0.step)⟩
  · rw [if_neg c4] at H
    have c4b0 : (a0.toList == ([43] : List UInt8)) = false := beq_eq_false_iff_ne.mpr c4
    have c4b1 : (a0.toList != ([43] : List UInt8)) = true := bne_iff_ne.mpr c4
    by_cases c5 : a0.toList = ([45] : List UInt8)
    · rw [if_pos c5] at H
      have c5b0 : (a0.toList == ([45] : List UInt8)) = true := beq_iff_eq.mpr c5
      have c5b1 : (a0.toList != ([45] : List UInt8)) = false := bne_eq_false_iff_eq.mpr c5
      clear c5
      simp only [Option.some.injEq, Prod.mk.injEq] at H
      obtain ⟨rfl, rfl⟩ := H
      go_enter Tryd.func15, Tryd.ntmps15
      go_wp2
      go_ret2
      exact ⟨by first | rfl | (simp; done) | (simp [*]; done), by repeat (first | exact Drawn0.refl _ | apply Drawn0.step)⟩
    · rw [if_neg c5] at H
      have c5b0 : (a0.toList == ([45] : List UInt8)) = false := beq_eq_false_iff_ne.mpr c5
      have c5b1 : (a0.toList != ([45] : List UInt8)) = true := bne_iff_ne.mpr c5
      by_cases c6 : a0.toList = ([42] : List UInt8)
      · rw [if_pos c6] at H
        have c6b0 : (a0.toList == ([42] : List UInt8)) = true := beq_iff_eq.mpr c6
        have c6b1 : (a0.toList != ([42] : List UInt8)) = false := bne_eq_false_iff_eq.mpr c6
        clear c6
        simp only [Option.some.injEq, Prod.mk.injEq] at H
        obtain ⟨rfl, rfl⟩ := H
        go_enter Tryd.func15, Tryd.ntmps15
        go_wp2
        go_ret2
        exact ⟨by first | rfl | (simp; done) | (simp [*]; done), by repeat (first | exact Drawn0.refl _ | apply Drawn0.step)⟩
      · rw [if_neg c6] at H
        have c6b0 : (a0.toList == ([42] : List UInt8)) = false := beq_eq_false_iff_ne.mpr c6
        have c6b1 : (a0.toList != ([42] : List UInt8)) = true := bne_iff_ne.mpr c6
        by_cases c7 : a0.toList = ([38] : List UInt8)
        · rw [if_pos c7] at H
          have c7b0 : (a0.toList == ([38] : List UInt8)) = true := beq_iff_eq.mpr c7
          have c7b1 : (a0.toList != ([38] : List UInt8)) = false := bne_eq_false_iff_eq.mpr c7
          clear c7
          simp only [Option.some.injEq, Prod.mk.injEq] at H
          obtain ⟨rfl, rfl⟩ := H
          go_enter Tryd.func15, Tryd.ntmps15
          go_wp2
          go_ret2
          exact ⟨by first | rfl | (simp; done) | (simp [*]; done), by repeat (first | exact Drawn0.refl _ | apply Drawn0.step)⟩
        · rw [if_neg c7] at H
          have c7b0 : (a0.toList == ([38] : List UInt8)) = false := beq_eq_false_iff_ne.mpr c7
          have c7b1 : (a0.toList != ([38] : List UInt8)) = true := bne_iff_ne.mpr c7
          by_cases c8 : a0.toList = ([124] : List UInt8)
          · rw [if_pos c8] at H
            have c8b0 : (a0.toList == ([124] : List UInt8)) = true := beq_iff_eq.mpr c8
            have c8b1 : (a0.toList != ([124] : List UInt8)) = false := bne_eq_false_iff_eq.mpr c8
            clear c8
            simp only [Option.some.injEq, Prod.mk.injEq] at H
            obtain ⟨rfl, rfl⟩ := H
            go_enter Tryd.func15, Tryd.ntmps15
            go_wp2
            go_ret2
            exact ⟨by first | rfl | (simp; done) | (simp [*]; done), by repeat (first | exact Drawn0.refl _ | apply Drawn0.step)⟩
          · rw [if_neg c8] at H
            have c8b0 : (a0.toList == ([124] : List UInt8)) = false := beq_eq_false_iff_ne.mpr c8
            have c8b1 : (a0.toList != ([124] : List UInt8)) = true := bne_iff_ne.mpr c8
            by_cases c9 : a0.toList = ([94] : List UInt8)
            · rw [if_pos c9] at H
              have c9b0 : (a0.toList == ([94] : List UInt8)) = true := beq_iff_eq.mpr c9
              have c9b1 : (a0.toList != ([94] : List UInt8)) = false := bne_eq_false_iff_eq.mpr c9
              clear c9
              simp only [Option.some.injEq, Prod.mk.injEq] at H
              obtain ⟨rfl, rfl⟩ := H
              go_enter Tryd.func15, Tryd.ntmps15
              go_wp2
              go_ret2
              exact ⟨by first | rfl | (simp; done) | (simp [*]; done), by repeat (first | exact Drawn0.refl _ | apply Drawn0.step)⟩
            · rw [if_neg c9] at H
              have c9b0 : (a0.toList == ([94] : List UInt8)) = false := beq_eq_false_iff_ne.mpr c9
              have c9b1 : (a0.toList != ([94] : List UInt8)) = true := bne_iff_ne.mpr c9
              by_cases c10 : a0.toList = ([61, 61] : List UInt8)
              · rw [if_pos c10] at H
                have c10b0 : (a0.toList == ([61, 61] : List UInt8)) = true := beq_iff_eq.mpr c10
                have c10b1 : (a0.toList != ([61, 61] : List UInt8)) = false := bne_eq_false_iff_eq.mpr c10
                clear c10
                replace H := Option.bind_eq_some_iff.mp H
                obtain ⟨t112, A110, H⟩ := H
                replace H : (some (t112, 0)) = some (r1, r2) := H
                have A11 := Aside0.mk A110
                clear A110
                simp only [Option.some.injEq, Prod.mk.injEq] at H
                obtain ⟨rfl, rfl⟩ := H
                go_enter Tryd.func15, Tryd.ntmps15
                go_wp2_with (first | ((with_reducible refine gate_callee (f := 26) rfl ?_); refine goesL_ (some 44) rfl rfl Tryd.func26 (by kernel_rfl) rfl #[.bool (a1 == a2)] rfl (by (try simp only [List.map_toArray, List.map_cons, List.map_nil]); first | done | rfl | (simp only [List.length_drop, List.length_take]; rfl)) ?_; (with_reducible refine (billhookref01_bit.calls (a1 == a2) t112 _ A11.out).mono ?_); rintro e w' ⟨rfl, ⟨nd, rfl⟩⟩; refine ⟨_, rfl, ?_⟩))
                go_ret2
                exact ⟨by first | rfl | (simp; done) | (simp [*]; done), by repeat (first | exact Drawn0.refl _ | apply Drawn0.step)⟩
              · rw [if_neg c10] at H
                have c10b0 : (a0.toList == ([61, 61] : List UInt8)) = false := beq_eq_false_iff_ne.mpr c10
                have c10b1 : (a0.toList != ([61, 61] : List UInt8)) = true := bne_iff_ne.mpr c10
                by_cases c12 : a0.toList = ([33, 61] : List UInt8)
                · rw [if_pos c12] at H
                  have c12b0 : (a0.toList == ([33, 61] : List UInt8)) = true := beq_iff_eq.mpr c12
                  have c12b1 : (a0.toList != ([33, 61] : List UInt8)) = false := bne_eq_false_iff_eq.mpr c12
                  clear c12
                  replace H := Option.bind_eq_some_iff.mp H
                  obtain ⟨t113, A130, H⟩ := H
                  replace H : (some (t113, 0)) = some (r1, r2) := H
                  have A13 := Aside0.mk A130
                  clear A130
                  simp only [Option.some.injEq, Prod.mk.injEq] at H
                  obtain ⟨rfl, rfl⟩ := H
                  go_enter Tryd.func15, Tryd.ntmps15
                  go_wp2_with (first | ((with_reducible refine gate_callee (f := 26) rfl ?_); refine goesL_ (some 50) rfl rfl Tryd.func26 (by kernel_rfl) rfl #[.bool (a1 != a2)] rfl (by (try simp only [List.map_toArray, List.map_cons, List.map_nil]); first | done | rfl | (simp only [List.length_drop, List.length_take]; rfl)) ?_; (with_reducible refine (billhookref01_bit.calls (a1 != a2) t113 _ A13.out).mono ?_); rintro e w' ⟨rfl, ⟨nd, rfl⟩⟩; refine ⟨_, rfl, ?_⟩))
                  go_ret2
                  exact ⟨by first | rfl | (simp; done) | (simp [*]; done), by repeat (first | exact Drawn0.refl _ | apply Drawn0.step)⟩
                · rw [if_neg c12] at H
                  have c12b0 : (a0.toList == ([33, 61] : List UInt8)) = false := beq_eq_false_iff_ne.mpr c12
                  have c12b1 : (a0.toList != ([33, 61] : List UInt8)) = true := bne_iff_ne.mpr c12
                  by_cases c14 : a0.toList = ([60] : List UInt8)
                  · rw [if_pos c14] at H
                    have c14b0 : (a0.toList == ([60] : List UInt8)) = true := beq_iff_eq.mpr c14
                    have c14b1 : (a0.toList != ([60] : List UInt8)) = false := bne_eq_false_iff_eq.mpr c14
                    clear c14
                    replace H := Option.bind_eq_some_iff.mp H
                    obtain ⟨t114, A150, H⟩ := H
                    replace H : (some (t114, 0)) = some (r1, r2) := H
                    have A15 := Aside0.mk A150
                    clear A150
                    simp only [Option.some.injEq, Prod.mk.injEq] at H
                    obtain ⟨rfl, rfl⟩ := H
                    go_enter Tryd.func15, Tryd.ntmps15
                    go_wp2_with (first | ((with_reducible refine gate_callee (f := 26) rfl ?_); refine goesL_ (some 56) rfl rfl Tryd.func26 (by kernel_rfl) rfl #[.bool (decide (a1 < a2))] rfl (by (try simp only [List.map_toArray, List.map_cons, List.map_nil]); first | done | rfl | (simp only [List.length_drop, List.length_take]; rfl)) ?_; (with_reducible refine (billhookref01_bit.calls (decide (a1 < a2)) t114 _ A15.out).mono ?_); rintro e w' ⟨rfl, ⟨nd, rfl⟩⟩; refine ⟨_, rfl, ?_⟩))
                    go_ret2
                    exact ⟨by first | rfl | (simp; done) | (simp [*]; done), by repeat (first | exact Drawn0.refl _ | apply Drawn0.step)⟩
                  · rw [if_neg c14] at H
                    have c14b0 : (a0.toList == ([60] : List UInt8)) = false := beq_eq_false_iff_ne.mpr c14
                    have c14b1 : (a0.toList != ([60] : List UInt8)) = true := bne_iff_ne.mpr c14
                    by_cases c16 : a0.toList = ([60, 61] : List UInt8)
                    · rw [if_pos c16] at H
                      have c16b0 : (a0.toList == ([60, 61] : List UInt8)) = true := beq_iff_eq.mpr c16
                      have c16b1 : (a0.toList != ([60, 61] : List UInt8)) = false := bne_eq_false_iff_eq.mpr c16
                      clear c16
                      replace H := Option.bind_eq_some_iff.mp H
                      obtain ⟨t115, A170, H⟩ := H
                      replace H : (some (t115, 0)) = some (r1, r2) := H
                      have A17 := Aside0.mk A170
                      clear A170
                      simp only [Option.some.injEq, Prod.mk.injEq] at H
                      obtain ⟨rfl, rfl⟩ := H
                      go_enter Tryd.func15, Tryd.ntmps15
                      go_wp2_with (first | ((with_reducible refine gate_callee (f := 26) rfl ?_); refine goesL_ (some 62) rfl rfl Tryd.func26 (by kernel_rfl) rfl #[.bool (decide (a1 ≤ a2))] rfl (by (try simp only [List.map_toArray, List.map_cons, List.map_nil]); first | done | rfl | (simp only [List.length_drop, List.length_take]; rfl)) ?_; (with_reducible refine (billhookref01_bit.calls (decide (a1 ≤ a2)) t115 _ A17.out).mono ?_); rintro e w' ⟨rfl, ⟨nd, rfl⟩⟩; refine ⟨_, rfl, ?_⟩))
                      go_ret2
                      exact ⟨by first | rfl | (simp; done) | (simp [*]; done), by repeat (first | exact Drawn0.refl _ | apply Drawn0.step)⟩
                    · rw [if_neg c16] at H
                      have c16b0 : (a0.toList == ([60, 61] : List UInt8)) = false := beq_eq_false_iff_ne.mpr c16
                      have c16b1 : (a0.toList != ([60, 61] : List UInt8)) = true := bne_iff_ne.mpr c16
                      by_cases c18 : a0.toList = ([62] : List UInt8)
                      · rw [if_pos c18] at H
                        have c18b0 : (a0.toList == ([62] : List UInt8)) = true := beq_iff_eq.mpr c18
                        have c18b1 : (a0.toList != ([62] : List UInt8)) = false := bne_eq_false_iff_eq.mpr c18
                        clear c18
                        replace H := Option.bind_eq_some_iff.mp H
                        obtain ⟨t116, A190, H⟩ := H
                        replace H : (some (t116, 0)) = some (r1, r2) := H
                        have A19 := Aside0.mk A190
                        clear A190
                        simp only [Option.some.injEq, Prod.mk.injEq] at H
                        obtain ⟨rfl, rfl⟩ := H
                        go_enter Tryd.func15, Tryd.ntmps15
                        go_wp2_with (first | ((with_reducible refine gate_callee (f := 26) rfl ?_); refine goesL_ (some 68) rfl rfl Tryd.func26 (by kernel_rfl) rfl #[.bool (decide (a1 > a2))] rfl (by (try simp only [List.map_toArray, List.map_cons, List.map_nil]); first | done | rfl | (simp only [List.length_drop, List.length_take]; rfl)) ?_; (with_reducible refine (billhookref01_bit.calls (decide (a1 > a2)) t116 _ A19.out).mono ?_); rintro e w' ⟨rfl, ⟨nd, rfl⟩⟩; refine ⟨_, rfl, ?_⟩))
                        go_ret2
                        exact ⟨by first | rfl | (simp; done) | (simp [*]; done), by repeat (first | exact Drawn0.refl _ | apply Drawn0.step)⟩
                      · rw [if_neg c18] at H
                        have c18b0 : (a0.toList == ([62] : List UInt8)) = false := beq_eq_false_iff_ne.mpr c18
                        have c18b1 : (a0.toList != ([62] : List UInt8)) = true := bne_iff_ne.mpr c18
                        by_cases c20 : a0.toList = ([62, 61] : List UInt8)
                        · rw [if_pos c20] at H
                          have c20b0 : (a0.toList == ([62, 61] : List UInt8)) = true := beq_iff_eq.mpr c20
                          have c20b1 : (a0.toList != ([62, 61] : List UInt8)) = false := bne_eq_false_iff_eq.mpr c20
                          clear c20
                          replace H := Option.bind_eq_some_iff.mp H
                          obtain ⟨t117, A210, H⟩ := H
                          replace H : (some (t117, 0)) = some (r1, r2) := H
                          have A21 := Aside0.mk A210
                          clear A210
                          simp only [Option.some.injEq, Prod.mk.injEq] at H
                          obtain ⟨rfl, rfl⟩ := H
                          go_enter Tryd.func15, Tryd.ntmps15
                          go_wp2_with (first | ((with_reducible refine gate_callee (f := 26) rfl ?_); refine goesL_ (some 74) rfl rfl Tryd.func26 (by kernel_rfl) rfl #[.bool (decide (a1 ≥ a2))] rfl (by (try simp only [List.map_toArray, List.map_cons, List.map_nil]); first | done | rfl | (simp only [List.length_drop, List.length_take]; rfl)) ?_; (with_reducible refine (billhookref01_bit.calls (decide (a1 ≥ a2)) t117 _ A21.out).mono ?_); rintro e w' ⟨rfl, ⟨nd, rfl⟩⟩; refine ⟨_, rfl, ?_⟩))
                          go_ret2
                          exact ⟨by first | rfl | (simp; done) | (simp [*]; done), by repeat (first | exact Drawn0.refl _ | apply Drawn0.step)⟩
                        · rw [if_neg c20] at H
                          have c20b0 : (a0.toList == ([62, 61] : List UInt8)) = false := beq_eq_false_iff_ne.mpr c20
                          have c20b1 : (a0.toList != ([62, 61] : List UInt8)) = true := bne_iff_ne.mpr c20
                          by_cases c22 : a0.toList = ([38, 38] : List UInt8)
                          · rw [if_pos c22] at H
                            have c22b0 : (a0.toList == ([38, 38] : List UInt8)) = true := beq_iff_eq.mpr c22
                            have c22b1 : (a0.toList != ([38, 38] : List UInt8)) = false := bne_eq_false_iff_eq.mpr c22
                            clear c22
                            by_cases c23 : a1 = 0
                            · rw [if_pos c23] at H
                              have c23b0 : (a1 == 0) = true := beq_iff_eq.mpr c23
                              have c23b1 : (a1 != 0) = false := bne_eq_false_iff_eq.mpr c23
                              clear c23
                              replace H := Option.bind_eq_some_iff.mp H
                              obtain ⟨t118, A240, H⟩ := H
                              replace H : (some (t118, 0)) = some (r1, r2) := H
                              have A24 := Aside0.mk A240
                              clear A240
                              simp only [Option.some.injEq, Prod.mk.injEq] at H
                              obtain ⟨rfl, rfl⟩ := H
                              go_enter Tryd.func15, Tryd.ntmps15
                              go_wp2_with (first | ((with_reducible refine gate_callee (f := 26) rfl ?_); refine goesL_ (some 83) rfl rfl Tryd.func26 (by kernel_rfl) rfl #[.bool false] rfl (by (try simp only [List.map_toArray, List.map_cons, List.map_nil]); first | done | rfl | (simp only [List.length_drop, List.length_take]; rfl)) ?_; (with_reducible refine (billhookref01_bit.calls false t118 _ A24.out).mono ?_); rintro e w' ⟨rfl, ⟨nd, rfl⟩⟩; refine ⟨_, rfl, ?_⟩))
                              go_ret2
                              exact ⟨by first | rfl | (simp; done) | (simp [*]; done), by repeat (first | exact Drawn0.refl _ | apply Drawn0.step)⟩
                            · rw [if_neg c23] at H
                              have c23b0 : (a1 == 0) = false := beq_eq_false_iff_ne.mpr c23
                              have c23b1 : (a1 != 0) = true := bne_iff_ne.mpr c23
                              replace H := Option.bind_eq_some_iff.mp H
                              obtain ⟨t119, A250, H⟩ := H
                              replace H : (some (t119, 0)) = some (r1, r2) := H
                              have A25 := Aside0.mk A250
                              clear A250
                              simp only [Option.some.injEq, Prod.mk.injEq] at H
                              obtain ⟨rfl, rfl⟩ := H
                              go_enter Tryd.func15, Tryd.ntmps15
                              go_wp2_with (first | ((with_reducible refine gate_callee (f := 26) rfl ?_); refine goesL_ (some 83) rfl rfl Tryd.func26 (by kernel_rfl) rfl #[.bool (a2 != 0)] rfl (by (try simp only [List.map_toArray, List.map_cons, List.map_nil]); first | done | rfl | (simp only [List.length_drop, List.length_take]; rfl)) ?_; (with_reducible refine (billhookref01_bit.calls (a2 != 0) t119 _ A25.out).mono ?_); rintro e w' ⟨rfl, ⟨nd, rfl⟩⟩; refine ⟨_, rfl, ?_⟩))
                              go_ret2
                              exact ⟨by first | rfl | (simp; done) | (simp [*]; done), by repeat (first | exact Drawn0.refl _ | apply Drawn0.step)⟩
                          · rw [if_neg c22] at H
                            have c22b0 : (a0.toList == ([38, 38] : List UInt8)) = false := beq_eq_false_iff_ne.mpr c22
                            have c22b1 : (a0.toList != ([38, 38] : List UInt8)) = true := bne_iff_ne.mpr c22
                            by_cases c26 : a0.toList = ([124, 124] : List UInt8)
                            · rw [if_pos c26] at H
                              have c26b0 : (a0.toList == ([124, 124] : List UInt8)) = true := beq_iff_eq.mpr c26
                              have c26b1 : (a0.toList != ([124, 124] : List UInt8)) = false := bne_eq_false_iff_eq.mpr c26
                              clear c26
                              by_cases c27 : a1 = 0
                              · rw [if_pos c27] at H
                                have c27b0 : (a1 == 0) = true := beq_iff_eq.mpr c27
                                have c27b1 : (a1 != 0) = false := bne_eq_false_iff_eq.mpr c27
                                clear c27
                                replace H := Option.bind_eq_some_iff.mp H
                                obtain ⟨t120, A280, H⟩ := H
                                replace H : (some (t120, 0)) = some (r1, r2) := H
                                have A28 := Aside0.mk A280
                                clear A280
                                simp only [Option.some.injEq, Prod.mk.injEq] at H
                                obtain ⟨rfl, rfl⟩ := H
                                go_enter Tryd.func15, Tryd.ntmps15
                                go_wp2_with (first | ((with_reducible refine gate_callee (f := 26) rfl ?_); refine goesL_ (some 92) rfl rfl Tryd.func26 (by kernel_rfl) rfl #[.bool (a2 != 0)] rfl (by (try simp only [List.map_toArray, List.map_cons, List.map_nil]); first | done | rfl | (simp only [List.length_drop, List.length_take]; rfl)) ?_; (with_reducible refine (billhookref01_bit.calls (a2 != 0) t120 _ A28.out).mono ?_); rintro e w' ⟨rfl, ⟨nd, rfl⟩⟩; refine ⟨_, rfl, ?_⟩))
                                go_ret2
                                exact ⟨by first | rfl | (simp; done) | (simp [*]; done), by repeat (first | exact Drawn0.refl _ | apply Drawn0.step)⟩
                              · rw [if_neg c27] at H
                                have c27b0 : (a1 == 0) = false := beq_eq_false_iff_ne.mpr c27
                                have c27b1 : (a1 != 0) = true := bne_iff_ne.mpr c27
                                replace H := Option.bind_eq_some_iff.mp H
                                obtain ⟨t121, A290, H⟩ := H
                                replace H : (some (t121, 0)) = some (r1, r2) := H
                                have A29 := Aside0.mk A290
                                clear A290
                                simp only [Option.some.injEq, Prod.mk.injEq] at H
                                obtain ⟨rfl, rfl⟩ := H
                                go_enter Tryd.func15, Tryd.ntmps15
                                go_wp2_with (first | ((with_reducible refine gate_callee (f := 26) rfl ?_); refine goesL_ (some 92) rfl rfl Tryd.func26 (by kernel_rfl) rfl #[.bool true] rfl (by (try simp only [List.map_toArray, List.map_cons, List.map_nil]); first | done | rfl | (simp only [List.length_drop, List.length_take]; rfl)) ?_; (with_reducible refine (billhookref01_bit.calls true t121 _ A29.out).mono ?_); rintro e w' ⟨rfl, ⟨nd, rfl⟩⟩; refine ⟨_, rfl, ?_⟩))
                                go_ret2
                                exact ⟨by first | rfl | (simp; done) | (simp [*]; done), by repeat (first | exact Drawn0.refl _ | apply Drawn0.step)⟩
                            · rw [if_neg c26] at H
                              have c26b0 : (a0.toList == ([124, 124] : List UInt8)) = false := beq_eq_false_iff_ne.mpr c26
                              have c26b1 : (a0.toList != ([124, 124] : List UInt8)) = true := bne_iff_ne.mpr c26
                              have HC30 := Aside0.mk H
                              clear H
                              go_enter Tryd.func15, Tryd.ntmps15
                              go_upto_if 93 with (fail)
                              go_cut [93] (fun v93 wc => ∃ (kq : Nat) (x93_29 : Bool), v93 = .bool x93_29 ∧ Aside0 (billhookref01_Binary.j0 kq a0 a1 a2 a0 x93_29 = some (r1, r2)) ∧ Aside0 (kq ≤ k) ∧ Drawn0 w wc)
                              case first =>
                                have H := HC30.out
                                clear HC30
                                by_cases c31 : a0.toList = ([47] : List UInt8)
                                · rw [if_pos c31] at H
                                  have c31b0 : (a0.toList == ([47] : List UInt8)) = true := beq_iff_eq.mpr c31
                                  have c31b1 : (a0.toList != ([47] : List UInt8)) = false := bne_eq_false_iff_eq.mpr c31
                                  clear c31
                                  (first | rw [c31b0] | (simp only [i64_w, i32_w]; rw [c31b0]) | skip)
                                  have H' := Aside0.mk H
                                  clear H
                                  go_wp2
                                  go_meet
                                  case rel => exact ⟨_, ((a0.toList == ([47] : List UInt8))), (by first | rfl | (simp; done) | (simp [*]; done)), H', ⟨by first | omega | exact Nat.le_refl _⟩, by repeat (first | exact Drawn0.refl _ | apply Drawn0.step)⟩
                                · rw [if_neg c31] at H
                                  have c31b0 : (a0.toList == ([47] : List UInt8)) = false := beq_eq_false_iff_ne.mpr c31
                                  have c31b1 : (a0.toList != ([47] : List UInt8)) = true := bne_iff_ne.mpr c31
                                  (first | rw [c31b0] | (simp only [i64_w, i32_w]; rw [c31b0]) | skip)
                                  have H' := Aside0.mk H
                                  clear H
                                  go_wp2
                                  go_meet
                                  case rel => exact ⟨_, ((a0.toList == ([37] : List UInt8))), (by first | rfl | (simp; done) | (simp [*]; done)), H', ⟨by first | omega | exact Nat.le_refl _⟩, by repeat (first | exact Drawn0.refl _ | apply Drawn0.step)⟩
                              case rest =>
                                clear HC30
                                try clear c1
                                try clear c2
                                try clear p2
                                try clear c3
                                try clear c4
                                try clear c4b0
                                try clear c4b1
                                try clear c5
                                try clear c5b0
                                try clear c5b1
                                try clear c6
                                try clear c6b0
                                try clear c6b1
                                try clear p6
                                try clear c7
                                try clear c7b0
                                try clear c7b1
                                try clear c8
                                try clear c8b0
                                try clear c8b1
                                try clear c9
                                try clear c9b0
                                try clear c9b1
                                try clear c10
                                try clear c10b0
                                try clear c10b1
                                try clear c12
                                try clear c12b0
                                try clear c12b1
                                try clear c14
                                try clear c14b0
                                try clear c14b1
                                try clear c15
                                try clear c16
                                try clear c16b0
                                try clear c16b1
                                try clear c18
                                try clear c18b0
                                try clear c18b1
                                try clear c20
                                try clear c20b0
                                try clear c20b1
                                try clear c22
                                try clear c22b0
                                try clear c22b1
                                try clear c23
                                try clear c23b0
                                try clear c23b1
                                try clear c26
                                try clear c26b0
                                try clear c26b1
                                try clear c27
                                try clear c27b0
                                try clear c27b1
                                try clear c31
                                try clear c31b0
                                try clear c31b1
                                obtain ⟨kq, x93_29, rfl, HA, HJ29, ⟨mc29, rfl⟩⟩ := hcut
                                cases kq with
                                | zero => exact absurd HA.out (by simp [billhookref01_Binary.j0])
                                | succ kj29 =>
                                  have H := HA.out
                                  clear HA
                                  simp only [billhookref01_Binary.j0] at H
                                  by_cases c32 : x93_29 = true
                                  · subst c32
                                    have H1 : (if a2 = 0 then (some (0, 1)) else (if a0.toList = ([47] : List UInt8) then (billhookref01_Binary.j1 kj29 a0 a1 a2 (a2 == (-1))) else (billhookref01_Binary.j1 kj29 a0 a1 a2 false))) = some (r1, r2) := by rw [if_pos rfl] at H; exact H
                                    clear H
                                    have H := H1
                                    clear H1
                                    by_cases c33 : a2 = 0
                                    · rw [if_pos c33] at H
                                      have c33b0 : (a2 == 0) = true := beq_iff_eq.mpr c33
                                      have c33b1 : (a2 != 0) = false := bne_eq_false_iff_eq.mpr c33
                                      clear c33
                                      simp only [Option.some.injEq, Prod.mk.injEq] at H
                                      obtain ⟨rfl, rfl⟩ := H
                                      go_wp2
                                      go_ret2
                                      exact ⟨by first | rfl | (simp; done) | (simp [*]; done), by repeat (first | exact Drawn0.refl _ | apply Drawn0.step)⟩
                                    · rw [if_neg c33] at H
                                      have c33b0 : (a2 == 0) = false := beq_eq_false_iff_ne.mpr c33
                                      have c33b1 : (a2 != 0) = true := bne_iff_ne.mpr c33
                                      have HC34 := Aside0.mk H
                                      clear H
                                      go_upto_region 34 with (fail)
                                      go_cut [103] (fun v103 wc => ∃ (kq : Nat) (x103_33 : Bool), v103 = .bool x103_33 ∧ Aside0 (billhookref01_Binary.j1 kq a0 a1 a2 x103_33 = some (r1, r2)) ∧ Aside0 (kq ≤ kj29) ∧ Drawn0 w wc)
                                      case first =>
                                        have H := HC34.out
                                        clear HC34
                                        by_cases c35 : a0.toList = ([47] : List UInt8)
                                        · rw [if_pos c35] at H
                                          have c35b0 : (a0.toList == ([47] : List UInt8)) = true := beq_iff_eq.mpr c35
                                          have c35b1 : (a0.toList != ([47] : List UInt8)) = false := bne_eq_false_iff_eq.mpr c35
                                          clear c35
                                          (first | rw [c35b0] | (simp only [i64_w, i32_w]; rw [c35b0]) | skip)
                                          have H' := Aside0.mk H
                                          clear H
                                          go_wp2
                                          go_meet
                                          case rel => exact ⟨_, ((a2 == (-1))), (by first | rfl | (simp; done) | (simp [*]; done)), H', ⟨by have := HJ29.out; first | omega | exact Nat.le_refl _⟩, by repeat (first | exact Drawn0.refl _ | apply Drawn0.step)⟩
                                        · rw [if_neg c35] at H
                                          have c35b0 : (a0.toList == ([47] : List UInt8)) = false := beq_eq_false_iff_ne.mpr c35
                                          have c35b1 : (a0.toList != ([47] : List UInt8)) = true := bne_iff_ne.mpr c35
                                          (first | rw [c35b0] | (simp only [i64_w, i32_w]; rw [c35b0]) | skip)
                                          have H' := Aside0.mk H
                                          clear H
                                          go_wp2
                                          go_meet
                                          case rel => exact ⟨_, (false), (by first | rfl | (simp; done) | (simp [*]; done)), H', ⟨by have := HJ29.out; first | omega | exact Nat.le_refl _⟩, by repeat (first | exact Drawn0.refl _ | apply Drawn0.step)⟩
                                      case rest =>
                                        clear HC34
                                        try clear c1
                                        try clear c2
                                        try clear p2
                                        try clear c3
                                        try clear c4
                                        try clear c4b0
                                        try clear c4b1
                                        try clear c5
                                        try clear c5b0
                                        try clear c5b1
                                        try clear c6
                                        try clear c6b0
                                        try clear c6b1
                                        try clear p6
                                        try clear c7
                                        try clear c7b0
                                        try clear c7b1
                                        try clear c8
                                        try clear c8b0
                                        try clear c8b1
                                        try clear c9
                                        try clear c9b0
                                        try clear c9b1
                                        try clear c10
                                        try clear c10b0
                                        try clear c10b1
                                        try clear c12
                                        try clear c12b0
                                        try clear c12b1
                                        try clear c14
                                        try clear c14b0
                                        try clear c14b1
                                        try clear c15
                                        try clear c16
                                        try clear c16b0
                                        try clear c16b1
                                        try clear c18
                                        try clear c18b0
                                        try clear c18b1
                                        try clear c20
                                        try clear c20b0
                                        try clear c20b1
                                        try clear c22
                                        try clear c22b0
                                        try clear c22b1
                                        try clear c23
                                        try clear c23b0
                                        try clear c23b1
                                        try clear c26
                                        try clear c26b0
                                        try clear c26b1
                                        try clear c27
                                        try clear c27b0
                                        try clear c27b1
                                        try clear c29
                                        try clear c31
                                        try clear c31b0
                                        try clear c31b1
                                        try clear c32
                                        try clear c33
                                        try clear c33b0
                                        try clear c33b1
                                        try clear c35
                                        try clear c35b0
                                        try clear c35b1
                                        try clear p2
                                        try clear p6
                                        obtain ⟨kq, x103_33, rfl, HA, HJ33, ⟨mc33, rfl⟩⟩ := hcut
                                        cases kq with
                                        | zero => exact absurd HA.out (by simp [billhookref01_Binary.j1])
                                        | succ kj33 =>
                                          have H := HA.out
                                          clear HA
                                          simp only [billhookref01_Binary.j1] at H
                                          by_cases c36 : x103_33 = true
                                          · subst c36
                                            have H1 : (some (wrap64 (-a1), 0)) = some (r1, r2) := by rw [if_pos rfl] at H; exact H
                                            clear H
                                            have H := H1
                                            clear H1
                                            simp only [Option.some.injEq, Prod.mk.injEq] at H
                                            obtain ⟨rfl, rfl⟩ := H
                                            go_wp2
                                            go_ret2
                                            exact ⟨by first | rfl | (simp; done) | (simp [*]; done), by repeat (first | exact Drawn0.refl _ | apply Drawn0.step)⟩
                                          · replace c36 := Bool.eq_false_iff.mpr c36
                                            subst c36
                                            have H1 : (if a2 = (-1) then (some (0, 0)) else (if a0.toList = ([47] : List UInt8) then (if a2 = 0 then (none) else (some (wrap64 (Int.tdiv a1 a2), 0))) else (if a2 = 0 then (none) else (some (Int.tmod a1 a2, 0))))) = some (r1, r2) := by rw [if_neg (show ¬ (false = true) by decide)] at H; exact H
                                            clear H
                                            have H := H1
                                            clear H1
                                            by_cases c37 : a2 = (-1)
                                            · rw [if_pos c37] at H
                                              have c37b0 : (a2 == (-1)) = true := beq_iff_eq.mpr c37
                                              have c37b1 : (a2 != (-1)) = false := bne_eq_false_iff_eq.mpr c37
                                              clear c37
                                              simp only [Option.some.injEq, Prod.mk.injEq] at H
                                              obtain ⟨rfl, rfl⟩ := H
                                              go_wp2
                                              go_ret2
                                              exact ⟨by first | rfl | (simp; done) | (simp [*]; done), by repeat (first | exact Drawn0.refl _ | apply Drawn0.step)⟩
                                            · rw [if_neg c37] at H
                                              have c37b0 : (a2 == (-1)) = false := beq_eq_false_iff_ne.mpr c37
                                              have c37b1 : (a2 != (-1)) = true := bne_iff_ne.mpr c37
                                              by_cases c38 : a0.toList = ([47] : List UInt8)
                                              · rw [if_pos c38] at H
                                                have c38b0 : (a0.toList == ([47] : List UInt8)) = true := beq_iff_eq.mpr c38
                                                have c38b1 : (a0.toList != ([47] : List UInt8)) = false := bne_eq_false_iff_eq.mpr c38
                                                clear c38
                                                by_cases c39 : a2 = 0
                                                · rw [if_pos c39] at H
                                                  exact absurd H (by simp)
                                                · rw [if_neg c39] at H
                                                  have c39b0 : (a2 == 0) = false := beq_eq_false_iff_ne.mpr c39
                                                  have c39b1 : (a2 != 0) = true := bne_iff_ne.mpr c39
                                                  simp only [Option.some.injEq, Prod.mk.injEq] at H
                                                  obtain ⟨rfl, rfl⟩ := H
                                                  go_wp2
                                                  go_ret2
                                                  exact ⟨by first | rfl | (simp; done) | (simp [*]; done), by repeat (first | exact Drawn0.refl _ | apply Drawn0.step)⟩
                                              · rw [if_neg c38] at H
                                                have c38b0 : (a0.toList == ([47] : List UInt8)) = false := beq_eq_false_iff_ne.mpr c38
                                                have c38b1 : (a0.toList != ([47] : List UInt8)) = true := bne_iff_ne.mpr c38
                                                by_cases c40 : a2 = 0
                                                · rw [if_pos c40] at H
                                                  exact absurd H (by simp)
                                                · rw [if_neg c40] at H
                                                  have c40b0 : (a2 == 0) = false := beq_eq_false_iff_ne.mpr c40
                                                  have c40b1 : (a2 != 0) = true := bne_iff_ne.mpr c40
                                                  simp only [Option.some.injEq, Prod.mk.injEq] at H
                                                  obtain ⟨rfl, rfl⟩ := H
                                                  go_wp2
                                                  go_ret2
                                                  exact ⟨by first | rfl | (simp; done) | (simp [*]; done), by repeat (first | exact Drawn0.refl _ | apply Drawn0.step)⟩
                                  · replace c32 := Bool.eq_false_iff.mpr c32
                                    subst c32
                                    have H1 : (if a0.toList = ([60, 60] : List UInt8) then (billhookref01_Binary.j2 kj29 a0 a1 a2 (a0.toList == ([60, 60] : List UInt8))) else (billhookref01_Binary.j2 kj29 a0 a1 a2 (a0.toList == ([62, 62] : List UInt8)))) = some (r1, r2) := by rw [if_neg (show ¬ (false = true) by decide)] at H; exact H
                                    clear H
                                    have H := H1
                                    clear H1
                                    have HC41 := Aside0.mk H
                                    clear H
                                    go_upto_if 116 with (fail)
                                    go_cut [116] (fun v116 wc => ∃ (kq : Nat) (x116_40 : Bool), v116 = .bool x116_40 ∧ Aside0 (billhookref01_Binary.j2 kq a0 a1 a2 x116_40 = some (r1, r2)) ∧ Aside0 (kq ≤ kj29) ∧ Drawn0 w wc)
                                    case first =>
                                      have H := HC41.out
                                      clear HC41
                                      by_cases c42 : a0.toList = ([60, 60] : List UInt8)
                                      · rw [if_pos c42] at H
                                        have c42b0 : (a0.toList == ([60, 60] : List UInt8)) = true := beq_iff_eq.mpr c42
                                        have c42b1 : (a0.toList != ([60, 60] : List UInt8)) = false := bne_eq_false_iff_eq.mpr c42
                                        clear c42
                                        (first | rw [c42b0] | (simp only [i64_w, i32_w]; rw [c42b0]) | skip)
                                        have H' := Aside0.mk H
                                        clear H
                                        go_wp2
                                        go_meet
                                        case rel => exact ⟨_, ((a0.toList == ([60, 60] : List UInt8))), (by first | rfl | (simp; done) | (simp [*]; done)), H', ⟨by have := HJ29.out; first | omega | exact Nat.le_refl _⟩, by repeat (first | exact Drawn0.refl _ | apply Drawn0.step)⟩
                                      · rw [if_neg c42] at H
                                        have c42b0 : (a0.toList == ([60, 60] : List UInt8)) = false := beq_eq_false_iff_ne.mpr c42
                                        have c42b1 : (a0.toList != ([60, 60] : List UInt8)) = true := bne_iff_ne.mpr c42
                                        (first | rw [c42b0] | (simp only [i64_w, i32_w]; rw [c42b0]) | skip)
                                        have H' := Aside0.mk H
                                        clear H
                                        go_wp2
                                        go_meet
                                        case rel => exact ⟨_, ((a0.toList == ([62, 62] : List UInt8))), (by first | rfl | (simp; done) | (simp [*]; done)), H', ⟨by have := HJ29.out; first | omega | exact Nat.le_refl _⟩, by repeat (first | exact Drawn0.refl _ | apply Drawn0.step)⟩
                                    case rest =>
                                      clear HC41
                                      try clear c1
                                      try clear c2
                                      try clear p2
                                      try clear c3
                                      try clear c4
                                      try clear c4b0
                                      try clear c4b1
                                      try clear c5
                                      try clear c5b0
                                      try clear c5b1
                                      try clear c6
                                      try clear c6b0
                                      try clear c6b1
                                      try clear p6
                                      try clear c7
                                      try clear c7b0
                                      try clear c7b1
                                      try clear c8
                                      try clear c8b0
                                      try clear c8b1
                                      try clear c9
                                      try clear c9b0
                                      try clear c9b1
                                      try clear c10
                                      try clear c10b0
                                      try clear c10b1
                                      try clear c12
                                      try clear c12b0
                                      try clear c12b1
                                      try clear c14
                                      try clear c14b0
                                      try clear c14b1
                                      try clear c15
                                      try clear c16
                                      try clear c16b0
                                      try clear c16b1
                                      try clear c18
                                      try clear c18b0
                                      try clear c18b1
                                      try clear c20
                                      try clear c20b0
                                      try clear c20b1
                                      try clear c22
                                      try clear c22b0
                                      try clear c22b1
                                      try clear c23
                                      try clear c23b0
                                      try clear c23b1
                                      try clear c26
                                      try clear c26b0
                                      try clear c26b1
                                      try clear c27
                                      try clear c27b0
                                      try clear c27b1
                                      try clear c29
                                      try clear c31
                                      try clear c31b0
                                      try clear c31b1
                                      try clear c32
                                      try clear c33
                                      try clear c33b0
                                      try clear c33b1
                                      try clear c35
                                      try clear c35b0
                                      try clear c35b1
                                      try clear c36
                                      try clear c37
                                      try clear c37b0
                                      try clear c37b1
                                      try clear c38
                                      try clear c38b0
                                      try clear c38b1
                                      try clear c39
                                      try clear c39b0
                                      try clear c39b1
                                      try clear c40
                                      try clear c40b0
                                      try clear c40b1
                                      try clear c42
                                      try clear c42b0
                                      try clear c42b1
                                      try clear p2
                                      try clear p6
                                      obtain ⟨kq, x116_40, rfl, HA, HJ40, ⟨mc40, rfl⟩⟩ := hcut
                                      cases kq with
                                      | zero => exact absurd HA.out (by simp [billhookref01_Binary.j2])
                                      | succ kj40 =>
                                        have H := HA.out
                                        clear HA
                                        simp only [billhookref01_Binary.j2] at H
                                        by_cases c43 : x116_40 = true
                                        · subst c43
                                          have H1 : (if a2 < 0 then (billhookref01_Binary.j3 kj40 a0 a1 a2 true) else (billhookref01_Binary.j3 kj40 a0 a1 a2 (decide (a2 > 63)))) = some (r1, r2) := by rw [if_pos rfl] at H; exact H
                                          clear H
                                          have H := H1
                                          clear H1
                                          have HC44 := Aside0.mk H
                                          clear H
                                          go_upto_region 43 with (fail)
                                          go_cut [124] (fun v124 wc => ∃ (kq : Nat) (x124_43 : Bool), v124 = .bool x124_43 ∧ Aside0 (billhookref01_Binary.j3 kq a0 a1 a2 x124_43 = some (r1, r2)) ∧ Aside0 (kq ≤ kj40) ∧ Drawn0 w wc)
                                          case first =>
                                            have H := HC44.out
                                            clear HC44
                                            by_cases c45 : a2 < 0
                                            · rw [if_pos c45] at H
                                              have c45b0 : decide (a2 < 0) = true := decide_eq_true c45
                                              clear c45
                                              (first | rw [c45b0] | (simp only [i64_w, i32_w]; rw [c45b0]) | skip)
                                              have H' := Aside0.mk H
                                              clear H
                                              go_wp2
                                              go_meet
                                              case rel => exact ⟨_, (true), (by first | rfl | (simp; done) | (simp [*]; done)), H', ⟨by have := HJ29.out; have := HJ40.out; first | omega | exact Nat.le_refl _⟩, by repeat (first | exact Drawn0.refl _ | apply Drawn0.step)⟩
                                            · rw [if_neg c45] at H
                                              have c45b0 : decide (a2 < 0) = false := decide_eq_false c45
                                              clear c45
                                              (first | rw [c45b0] | (simp only [i64_w, i32_w]; rw [c45b0]) | skip)
                                              have H' := Aside0.mk H
                                              clear H
                                              go_wp2
                                              go_meet
                                              case rel => exact ⟨_, (decide (a2 > 63)), (by first | rfl | (simp; done) | (simp [*]; done)), H', ⟨by have := HJ29.out; have := HJ40.out; first | omega | exact Nat.le_refl _⟩, by repeat (first | exact Drawn0.refl _ | apply Drawn0.step)⟩
                                          case rest =>
                                            clear HC44
                                            try clear c1
                                            try clear c2
                                            try clear p2
                                            try clear c3
                                            try clear c4
                                            try clear c4b0
                                            try clear c4b1
                                            try clear c5
                                            try clear c5b0
                                            try clear c5b1
                                            try clear c6
                                            try clear c6b0
                                            try clear c6b1
                                            try clear p6
                                            try clear c7
                                            try clear c7b0
                                            try clear c7b1
                                            try clear c8
                                            try clear c8b0
                                            try clear c8b1
                                            try clear c9
                                            try clear c9b0
                                            try clear c9b1
                                            try clear c10
                                            try clear c10b0
                                            try clear c10b1
                                            try clear c12
                                            try clear c12b0
                                            try clear c12b1
                                            try clear c14
                                            try clear c14b0
                                            try clear c14b1
                                            try clear c15
                                            try clear c16
                                            try clear c16b0
                                            try clear c16b1
                                            try clear c18
                                            try clear c18b0
                                            try clear c18b1
                                            try clear c20
                                            try clear c20b0
                                            try clear c20b1
                                            try clear c22
                                            try clear c22b0
                                            try clear c22b1
                                            try clear c23
                                            try clear c23b0
                                            try clear c23b1
                                            try clear c26
                                            try clear c26b0
                                            try clear c26b1
                                            try clear c27
                                            try clear c27b0
                                            try clear c27b1
                                            try clear c29
                                            try clear c31
                                            try clear c31b0
                                            try clear c31b1
                                            try clear c32
                                            try clear c33
                                            try clear c33b0
                                            try clear c33b1
                                            try clear c35
                                            try clear c35b0
                                            try clear c35b1
                                            try clear c36
                                            try clear c37
                                            try clear c37b0
                                            try clear c37b1
                                            try clear c38
                                            try clear c38b0
                                            try clear c38b1
                                            try clear c39
                                            try clear c39b0
                                            try clear c39b1
                                            try clear c40
                                            try clear c40b0
                                            try clear c40b1
                                            try clear c42
                                            try clear c42b0
                                            try clear c42b1
                                            try clear c43
                                            try clear c45
                                            try clear c45b0
                                            try clear p2
                                            try clear p6
                                            obtain ⟨kq, x124_43, rfl, HA, HJ43, ⟨mc43, rfl⟩⟩ := hcut
                                            cases kq with
                                            | zero => exact absurd HA.out (by simp [billhookref01_Binary.j3])
                                            | succ kj43 =>
                                              have H := HA.out
                                              clear HA
                                              simp only [billhookref01_Binary.j3] at H
                                              by_cases c46 : x124_43 = true
                                              · subst c46
                                                have H1 : (some (0, 2)) = some (r1, r2) := by rw [if_pos rfl] at H; exact H
                                                clear H
                                                have H := H1
                                                clear H1
                                                simp only [Option.some.injEq, Prod.mk.injEq] at H
                                                obtain ⟨rfl, rfl⟩ := H
                                                go_wp2
                                                go_ret2
                                                exact ⟨by first | rfl | (simp; done) | (simp [*]; done), by repeat (first | exact Drawn0.refl _ | apply Drawn0.step)⟩
                                              · replace c46 := Bool.eq_false_iff.mpr c46
                                                subst c46
                                                have H1 : (if a0.toList = ([60, 60] : List UInt8) then (if 0 ≤ (IntKind.u64.wrap (a2)) then (some (shl .i64 a1 (IntKind.u64.wrap (a2)), 0)) else (none)) else (if 0 ≤ (IntKind.u64.wrap (a2)) then (some (shr .i64 a1 (IntKind.u64.wrap (a2)), 0)) else (none))) = some (r1, r2) := by rw [if_neg (show ¬ (false = true) by decide)] at H; exact H
                                                clear H
                                                have H := H1
                                                clear H1
                                                by_cases c47 : a0.toList = ([60, 60] : List UInt8)
                                                · rw [if_pos c47] at H
                                                  have c47b0 : (a0.toList == ([60, 60] : List UInt8)) = true := beq_iff_eq.mpr c47
                                                  have c47b1 : (a0.toList != ([60, 60] : List UInt8)) = false := bne_eq_false_iff_eq.mpr c47
                                                  clear c47
                                                  obtain ⟨ji48, hji48⟩ : ∃ j_ : Int, (IntKind.u64.wrap (a2)) = j_ := ⟨_, rfl⟩
                                                  replace H : (if 0 ≤ (ji48) then (some (shl .i64 a1 (ji48), 0)) else (none)) = some (r1, r2) := by first | (rw [hji48] at H; exact H) | (simp only [hji48] at H ⊢; exact H)
                                                  by_cases c49 : 0 ≤ (ji48)
                                                  · rw [if_pos c49] at H
                                                    have c49b0 := eq_true c49
                                                    have c49b1 : decide (0 ≤ (ji48)) = true := decide_eq_true c49
                                                    clear c49
                                                    obtain ⟨ji50, hji50⟩ : ∃ j_ : Int, (shl .i64 a1 (ji48)) = j_ := ⟨_, rfl⟩
                                                    replace H : (some (ji50, 0)) = some (r1, r2) := by first | (rw [hji50] at H; exact H) | (simp only [hji50] at H ⊢; exact H)
                                                    have hji50_ : (IntKind.i64.wrap (a1 * 2 ^ min (ji48).toNat 64)) = ji50 := hji50
                                                    have hji50z : (ji48) ≤ 64 → (IntKind.i64.wrap (a1 * 2 ^ (ji48).toNat)) = ji50 := shl_small hji50
                                                    have hji50y : (wrap64 (a1 * 2 ^ min (ji48).toNat 64)) = ji50 := (i64_w _).symm.trans hji50_
                                                    have hji50x : (ji48) ≤ 64 → (wrap64 (a1 * 2 ^ (ji48).toNat)) = ji50 := fun h_ => (i64_w _).symm.trans (hji50z h_)
                                                    simp only [Option.some.injEq, Prod.mk.injEq] at H
                                                    obtain ⟨rfl, rfl⟩ := H
                                                    go_wp2
                                                    go_ret2
                                                    exact ⟨by first | rfl | (simp; done) | (simp only [← hji48, ← hji50] <;> (first | rfl | simp)) | (simp [*]; done), by repeat (first | exact Drawn0.refl _ | apply Drawn0.step)⟩
                                                  · rw [if_neg c49] at H
                                                    exact absurd H (by simp)
                                                · rw [if_neg c47] at H
                                                  have c47b0 : (a0.toList == ([60, 60] : List UInt8)) = false := beq_eq_false_iff_ne.mpr c47
                                                  have c47b1 : (a0.toList != ([60, 60] : List UInt8)) = true := bne_iff_ne.mpr c47
                                                  obtain ⟨ji51, hji51⟩ : ∃ j_ : Int, (IntKind.u64.wrap (a2)) = j_ := ⟨_, rfl⟩
                                                  replace H : (if 0 ≤ (ji51) then (some (shr .i64 a1 (ji51), 0)) else (none)) = some (r1, r2) := by first | (rw [hji51] at H; exact H) | (simp only [hji51] at H ⊢; exact H)
                                                  by_cases c52 : 0 ≤ (ji51)
                                                  · rw [if_pos c52] at H
                                                    have c52b0 := eq_true c52
                                                    have c52b1 : decide (0 ≤ (ji51)) = true := decide_eq_true c52
                                                    clear c52
                                                    obtain ⟨ji53, hji53⟩ : ∃ j_ : Int, (shr .i64 a1 (ji51)) = j_ := ⟨_, rfl⟩
                                                    replace H : (some (ji53, 0)) = some (r1, r2) := by first | (rw [hji53] at H; exact H) | (simp only [hji53] at H ⊢; exact H)
                                                    have hji53_ : (a1 / 2 ^ min (ji51).toNat 64) = ji53 := hji53
                                                    have hji53z : (ji51) ≤ 64 → (a1 / 2 ^ (ji51).toNat) = ji53 := shr_small hji53
                                                    simp only [Option.some.injEq, Prod.mk.injEq] at H
                                                    obtain ⟨rfl, rfl⟩ := H
                                                    go_wp2
                                                    go_ret2
                                                    exact ⟨by first | rfl | (simp; done) | (simp only [← hji51, ← hji53] <;> (first | rfl | simp)) | (simp [*]; done), by repeat (first | exact Drawn0.refl _ | apply Drawn0.step)⟩
                                                  · rw [if_neg c52] at H
                                                    exact absurd H (by simp)
                                        · replace c43 := Bool.eq_false_iff.mpr c43
                                          subst c43
                                          have H1 : (some (0, 0)) = some (r1, r2) := by rw [if_neg (show ¬ (false = true) by decide)] at H; exact H
                                          clear H
                                          have H := H1
                                          clear H1
                                          simp only [Option.some.injEq, Prod.mk.injEq] at H
                                          obtain ⟨rfl, rfl⟩ := H
                                          go_wp2
                                          go_ret2
                                          exact ⟨by first | rfl | (simp; done) | (simp [*]; done), by repeat (first | exact Drawn0.refl _ | apply Drawn0.step)⟩

end Go.Proofs.YtlkabncoaijepaaDoor.PAll
