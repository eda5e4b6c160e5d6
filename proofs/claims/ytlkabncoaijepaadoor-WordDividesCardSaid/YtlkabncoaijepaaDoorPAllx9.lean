-- PRINTED by print.py (a twelfth state) out of the translation. Not trusted: Lean checks it.
import Derived.Test.YtlkabncoaijepaaDoorPAllx0
import Derived.Test.YtlkabncoaijepaaDoorPAllx3
import Derived.Test.YtlkabncoaijepaaDoorPAllx5
import Derived.Test.YtlkabncoaijepaaDoorExtEx
namespace Go.Proofs.YtlkabncoaijepaaDoor.PAll
open Go.RowKit Go.Proofs.YtlkabncoaijepaaDoorW.PrintWords Go.Proofs.YtlkabncoaijepaaDoorW.PrintLast Go.Proofs.YtlkabncoaijepaaDoorW.PrintMore
attribute [local go_sem] max2_int min2_int max_two min_two max_three min_three max_four min_four   -- for this text's walks alone
set_option linter.unusedVariables false
set_option linter.unusedSimpArgs false

open Go.Proofs.YtlkabncoaijepaaDoor.X
/-! ### billhooklaw01_WordLogic: function 7 -/
mutual
def billhooklaw01_WordLogic.j0 : Nat → Int → Int → Bool → Bool → Option (Bool)
  | 0, _, _, _, _ => none
  | k + 1, x0, x1, x3, x9 => if x3 = true then (billhooklaw01_WordLogic.j1 k x0 0 x9) else (billhooklaw01_WordLogic.j1 k x0 x1 x9)
def billhooklaw01_WordLogic.j1 : Nat → Int → Int → Bool → Option (Bool)
  | 0, _, _, _ => none
  | k + 1, x0, x1, x9 => (word_Unary.f (⟨#[33]⟩ : ByteArray) x0).bind fun bt218 => ((word_Unary.f (⟨#[33]⟩ : ByteArray) x1).bind fun bt220 => ((billhooklaw01_do.f (⟨#[38, 38]⟩ : ByteArray) x0 x1).bind fun t222 => ((billhooklaw01_do.f (⟨#[124, 124]⟩ : ByteArray) x0 x1).bind fun t223 => (if x9 = true then (if x0 = 0 then (if ((t222 == 1) == false) = true then (if ((t223 == 1) == (x1 != 0)) = true then ((billhooklaw01_do.f (⟨#[124, 124]⟩ : ByteArray) bt218.1 bt220.1).bind fun t224 => (if t222 = (wrap64 (1 - t224)) then ((billhooklaw01_do.f (⟨#[38, 38]⟩ : ByteArray) bt218.1 bt220.1).bind fun t225 => (if t223 = (wrap64 (1 - t225)) then (if t222 ≥ 0 then (some (decide (t222 ≤ 1))) else (some false)) else (some false))) else (some false))) else (some false)) else (some false)) else (if ((t222 == 1) == (x1 != 0)) = true then (if ((t223 == 1) == true) = true then ((billhooklaw01_do.f (⟨#[124, 124]⟩ : ByteArray) bt218.1 bt220.1).bind fun t226 => (if t222 = (wrap64 (1 - t226)) then ((billhooklaw01_do.f (⟨#[38, 38]⟩ : ByteArray) bt218.1 bt220.1).bind fun t227 => (if t223 = (wrap64 (1 - t227)) then (if t222 ≥ 0 then (some (decide (t222 ≤ 1))) else (some false)) else (some false))) else (some false))) else (some false)) else (some false))) else (some false)))))
end
def billhooklaw01_WordLogic.f (k : Nat) (a0 : Int) (a1 : Int) (a2 : Bool) (a3 : Bool) : Option (Bool) := (billhooklaw01_examples.f).bind fun t217 => (if t217 = true then (if a2 = true then (billhooklaw01_WordLogic.j0 k 0 a1 a3 t217) else (billhooklaw01_WordLogic.j0 k a0 a1 a3 t217)) else (some false))
theorem billhooklaw01_WordLogic.mono_l : ∀ k, (∀ y0 y1 y2 y3, LeO (billhooklaw01_WordLogic.j0 k y0 y1 y2 y3) (billhooklaw01_WordLogic.j0 (k + 1) y0 y1 y2 y3)) ∧ (∀ y0 y1 y2, LeO (billhooklaw01_WordLogic.j1 k y0 y1 y2) (billhooklaw01_WordLogic.j1 (k + 1) y0 y1 y2))
  | 0 => ⟨fun _ _ _ _ r h => by simp [billhooklaw01_WordLogic.j0] at h, fun _ _ _ r h => by simp [billhooklaw01_WordLogic.j1] at h⟩
  | k + 1 => by
    obtain ⟨ih0, ih1⟩ := billhooklaw01_WordLogic.mono_l k
    refine ⟨?_, ?_⟩
    · intro y0 y1 y2 y3
      unfold billhooklaw01_WordLogic.j0
      repeat' first
      | (with_reducible exact ih0 _ _ _ _)
      | (with_reducible exact ih1 _ _ _)
      | (with_reducible exact LeO.refl _)
      | (with_reducible exact LeO.none _)
      | (with_reducible refine LeO.ite ?_ ?_)
      | (with_reducible refine LeO.bind ?_ (fun _ => ?_))
      | exact ih0 _ _ _ _
      | exact ih1 _ _ _
      | exact LeO.none _
      | refine LeO.ite ?_ ?_
      | refine LeO.bind ?_ (fun _ => ?_)
    · intro y0 y1 y2
      unfold billhooklaw01_WordLogic.j1
      repeat' first
      | (with_reducible exact ih0 _ _ _ _)
      | (with_reducible exact ih1 _ _ _)
      | (with_reducible exact LeO.refl _)
      | (with_reducible exact LeO.none _)
      | (with_reducible refine LeO.ite ?_ ?_)
      | (with_reducible refine LeO.bind ?_ (fun _ => ?_))
      | exact ih0 _ _ _ _
      | exact ih1 _ _ _
      | exact LeO.none _
      | refine LeO.ite ?_ ?_
      | refine LeO.bind ?_ (fun _ => ?_)
theorem billhooklaw01_WordLogic.mono : ∀ a0 a1 a2 a3 k, LeO (billhooklaw01_WordLogic.f k a0 a1 a2 a3) (billhooklaw01_WordLogic.f (k + 1) a0 a1 a2 a3) := by
  intro a0 a1 a2 a3 k
  obtain ⟨ih0, ih1⟩ := billhooklaw01_WordLogic.mono_l k
  unfold billhooklaw01_WordLogic.f
  repeat' first
      | (with_reducible exact ih0 _ _ _ _)
      | (with_reducible exact ih1 _ _ _)
      | (with_reducible exact LeO.refl _)
      | (with_reducible exact LeO.none _)
      | (with_reducible refine LeO.ite ?_ ?_)
      | (with_reducible refine LeO.bind ?_ (fun _ => ?_))
      | exact ih0 _ _ _ _
      | exact ih1 _ _ _
      | exact LeO.none _
      | refine LeO.ite ?_ ?_
      | refine LeO.bind ?_ (fun _ => ?_)
set_option maxHeartbeats 8000000 in
set_option maxRecDepth 100000 in
theorem billhooklaw01_WordLogic.calls (k : Nat) (a0 : Int) (a1 : Int) (a2 : Bool) (a3 : Bool) (w : World) (hG : GL w) (h : billhooklaw01_WordLogic.f k a0 a1 a2 a3 = some true) :
    Calls Tryd.prog 7 #[.int .i64 a0, .int .i64 a1, .bool a2, .bool a3] w fun e w' => e = .returned (.bool true) ∧ Below w.heap.size w w' := by
  have HB := Aside0.mk (Below.refl w.heap.size w)
  have H : ((billhooklaw01_examples.f).bind fun t217 => (if t217 = true then (if a2 = true then (billhooklaw01_WordLogic.j0 k 0 a1 a3 t217) else (billhooklaw01_WordLogic.j0 k a0 a1 a3 t217)) else (some false))) = some true := h
  clear h
  replace H := Option.bind_eq_some_iff.mp H
  obtain ⟨t217, A50, H⟩ := H
  replace H : (if t217 = true then (if a2 = true then (billhooklaw01_WordLogic.j0 k 0 a1 a3 t217) else (billhooklaw01_WordLogic.j0 k a0 a1 a3 t217)) else (some false)) = some true := H
  have A5 := Aside0.mk A50
  clear A50
  by_cases c6 : t217 = true
  · subst c6
    have H1 : (if a2 = true then (billhooklaw01_WordLogic.j0 k 0 a1 a3 true) else (billhooklaw01_WordLogic.j0 k a0 a1 a3 true)) = some true := by rw [if_pos rfl] at H; exact H
    clear H
    have H := H1
    clear H1
    have HC7 := Aside0.mk H
    clear H
    go_enter Tryd.func7, Tryd.ntmps7
    go_upto_if 19 with (first | ((with_reducible refine gate_callee (f := 11) rfl ?_); refine goesL_ (some 16) rfl rfl Tryd.func11 (by kernel_rfl) rfl #[] rfl (by (try simp only [List.map_toArray, List.map_cons, List.map_nil]); first | done | rfl | (simp only [List.length_drop, List.length_take]; rfl)) ?_; (with_reducible refine (billhooklaw01_examples.calls  true _ ?side1 A5.out).mono ?_); (case side1 => exact GL.below hG (by repeat (first | (with_reducible first | exact HB.out | apply below_alloc | apply pw_below_drewN | apply below_drew1) | exact HB.out))); rintro e w8 ⟨rfl, hb⟩; refine ⟨_, rfl, ?_⟩; have n0_ := Aside0.mk (below_step (by repeat (first | (with_reducible first | exact HB.out | apply below_alloc | apply pw_below_drewN | apply below_drew1) | exact HB.out)) hb); clear HB; have HB := n0_; clear n0_; (try clear hb); (try clear hb2); (try clear hk); (try clear hi)))
    (try simp only [Act.put, List.setIfInBounds_toArray, List.set_cons_zero, List.set_cons_succ])
    go_cut [0] (fun v0 wc => ∃ (kq : Nat) (x0_6 : Int), v0 = .int .i64 x0_6 ∧ Aside0 (billhooklaw01_WordLogic.j0 kq x0_6 a1 a3 true = some true) ∧ Aside0 (kq ≤ k) ∧ Aside0 (Below w.heap.size w wc))
    case first =>
      have H := HC7.out
      clear HC7
      by_cases c9 : a2 = true
      · subst c9
        have H1 : (billhooklaw01_WordLogic.j0 k 0 a1 a3 true) = some true := by rw [if_pos rfl] at H; exact H
        clear H
        have H := H1
        clear H1
        have H' := Aside0.mk H
        clear H
        go_wp2
        go_meet
        case rel => exact ⟨_, (0), (by first | rfl | (simp; done) | (simp [*]; done)), H', ⟨by first | omega | exact Nat.le_refl _⟩, ⟨by repeat (first | (with_reducible first | exact HB.out | apply below_alloc | apply pw_below_drewN | apply below_drew1) | exact HB.out)⟩⟩
      · replace c9 := Bool.eq_false_iff.mpr c9
        subst c9
        have H1 : (billhooklaw01_WordLogic.j0 k a0 a1 a3 true) = some true := by rw [if_neg (show ¬ (false = true) by decide)] at H; exact H
        clear H
        have H := H1
        clear H1
        have H' := Aside0.mk H
        clear H
        go_wp2
        go_meet
        case rel => exact ⟨_, (a0), (by first | rfl | (simp; done) | (simp [*]; done)), H', ⟨by first | omega | exact Nat.le_refl _⟩, ⟨by repeat (first | (with_reducible first | exact HB.out | apply below_alloc | apply pw_below_drewN | apply below_drew1) | exact HB.out)⟩⟩
    case rest =>
      clear HC7
      try clear c1
      try clear p2
      try clear c6
      try clear c7
      try clear c9
      obtain ⟨kq, x0_6, rfl, HA, HJ6, HB⟩ := hcut
      cases kq with
      | zero => exact absurd HA.out (by simp [billhooklaw01_WordLogic.j0])
      | succ kj6 =>
        have H := HA.out
        clear HA
        simp only [billhooklaw01_WordLogic.j0] at H
        have HC10 := Aside0.mk H
        clear H
        go_upto_if 20 with (fail)
        go_cut [1] (fun v1 wc => ∃ (kq : Nat) (x1_9 : Int), v1 = .int .i64 x1_9 ∧ Aside0 (billhooklaw01_WordLogic.j1 kq x0_6 x1_9 true = some true) ∧ Aside0 (kq ≤ kj6) ∧ Aside0 (Below w.heap.size w wc))
        case first =>
          have H := HC10.out
          clear HC10
          by_cases c11 : a3 = true
          · subst c11
            have H1 : (billhooklaw01_WordLogic.j1 kj6 x0_6 0 true) = some true := by rw [if_pos rfl] at H; exact H
            clear H
            have H := H1
            clear H1
            have H' := Aside0.mk H
            clear H
            go_wp2
            go_meet
            case rel => exact ⟨_, (0), (by first | rfl | (simp; done) | (simp [*]; done)), H', ⟨by have := HJ6.out; first | omega | exact Nat.le_refl _⟩, ⟨by repeat (first | (with_reducible first | exact HB.out | apply below_alloc | apply pw_below_drewN | apply below_drew1) | exact HB.out)⟩⟩
          · replace c11 := Bool.eq_false_iff.mpr c11
            subst c11
            have H1 : (billhooklaw01_WordLogic.j1 kj6 x0_6 a1 true) = some true := by rw [if_neg (show ¬ (false = true) by decide)] at H; exact H
            clear H
            have H := H1
            clear H1
            have H' := Aside0.mk H
            clear H
            go_wp2
            go_meet
            case rel => exact ⟨_, (a1), (by first | rfl | (simp; done) | (simp [*]; done)), H', ⟨by have := HJ6.out; first | omega | exact Nat.le_refl _⟩, ⟨by repeat (first | (with_reducible first | exact HB.out | apply below_alloc | apply pw_below_drewN | apply below_drew1) | exact HB.out)⟩⟩
        case rest =>
          clear HC10
          try clear c1
          try clear p2
          try clear c6
          try clear c7
          try clear c9
          try clear c11
          try clear p2
          obtain ⟨kq, x1_9, rfl, HA, HJ9, HB⟩ := hcut
          cases kq with
          | zero => exact absurd HA.out (by simp [billhooklaw01_WordLogic.j1])
          | succ kj9 =>
            have H := HA.out
            clear HA
            simp only [billhooklaw01_WordLogic.j1] at H
            replace H := Option.bind_eq_some_iff.mp H
            obtain ⟨⟨t218, t219⟩, A120, H⟩ := H
            replace H : ((word_Unary.f (⟨#[33]⟩ : ByteArray) x1_9).bind fun bt220 => ((billhooklaw01_do.f (⟨#[38, 38]⟩ : ByteArray) x0_6 x1_9).bind fun t222 => ((billhooklaw01_do.f (⟨#[124, 124]⟩ : ByteArray) x0_6 x1_9).bind fun t223 => (if true = true then (if x0_6 = 0 then (if ((t222 == 1) == false) = true then (if ((t223 == 1) == (x1_9 != 0)) = true then ((billhooklaw01_do.f (⟨#[124, 124]⟩ : ByteArray) t218 bt220.1).bind fun t224 => (if t222 = (wrap64 (1 - t224)) then ((billhooklaw01_do.f (⟨#[38, 38]⟩ : ByteArray) t218 bt220.1).bind fun t225 => (if t223 = (wrap64 (1 - t225)) then (if t222 ≥ 0 then (some (decide (t222 ≤ 1))) else (some false)) else (some false))) else (some false))) else (some false)) else (some false)) else (if ((t222 == 1) == (x1_9 != 0)) = true then (if ((t223 == 1) == true) = true then ((billhooklaw01_do.f (⟨#[124, 124]⟩ : ByteArray) t218 bt220.1).bind fun t226 => (if t222 = (wrap64 (1 - t226)) then ((billhooklaw01_do.f (⟨#[38, 38]⟩ : ByteArray) t218 bt220.1).bind fun t227 => (if t223 = (wrap64 (1 - t227)) then (if t222 ≥ 0 then (some (decide (t222 ≤ 1))) else (some false)) else (some false))) else (some false))) else (some false)) else (some false))) else (some false))))) = some true := H
            have A12 := Aside0.mk A120
            clear A120
            replace H := Option.bind_eq_some_iff.mp H
            obtain ⟨⟨t220, t221⟩, A130, H⟩ := H
            replace H : ((billhooklaw01_do.f (⟨#[38, 38]⟩ : ByteArray) x0_6 x1_9).bind fun t222 => ((billhooklaw01_do.f (⟨#[124, 124]⟩ : ByteArray) x0_6 x1_9).bind fun t223 => (if true = true then (if x0_6 = 0 then (if ((t222 == 1) == false) = true then (if ((t223 == 1) == (x1_9 != 0)) = true then ((billhooklaw01_do.f (⟨#[124, 124]⟩ : ByteArray) t218 t220).bind fun t224 => (if t222 = (wrap64 (1 - t224)) then ((billhooklaw01_do.f (⟨#[38, 38]⟩ : ByteArray) t218 t220).bind fun t225 => (if t223 = (wrap64 (1 - t225)) then (if t222 ≥ 0 then (some (decide (t222 ≤ 1))) else (some false)) else (some false))) else (some false))) else (some false)) else (some false)) else (if ((t222 == 1) == (x1_9 != 0)) = true then (if ((t223 == 1) == true) = true then ((billhooklaw01_do.f (⟨#[124, 124]⟩ : ByteArray) t218 t220).bind fun t226 => (if t222 = (wrap64 (1 - t226)) then ((billhooklaw01_do.f (⟨#[38, 38]⟩ : ByteArray) t218 t220).bind fun t227 => (if t223 = (wrap64 (1 - t227)) then (if t222 ≥ 0 then (some (decide (t222 ≤ 1))) else (some false)) else (some false))) else (some false))) else (some false)) else (some false))) else (some false)))) = some true := H
            have A13 := Aside0.mk A130
            clear A130
            replace H := Option.bind_eq_some_iff.mp H
            obtain ⟨t222, A140, H⟩ := H
            replace H : ((billhooklaw01_do.f (⟨#[124, 124]⟩ : ByteArray) x0_6 x1_9).bind fun t223 => (if true = true then (if x0_6 = 0 then (if ((t222 == 1) == false) = true then (if ((t223 == 1) == (x1_9 != 0)) = true then ((billhooklaw01_do.f (⟨#[124, 124]⟩ : ByteArray) t218 t220).bind fun t224 => (if t222 = (wrap64 (1 - t224)) then ((billhooklaw01_do.f (⟨#[38, 38]⟩ : ByteArray) t218 t220).bind fun t225 => (if t223 = (wrap64 (1 - t225)) then (if t222 ≥ 0 then (some (decide (t222 ≤ 1))) else (some false)) else (some false))) else (some false))) else (some false)) else (some false)) else (if ((t222 == 1) == (x1_9 != 0)) = true then (if ((t223 == 1) == true) = true then ((billhooklaw01_do.f (⟨#[124, 124]⟩ : ByteArray) t218 t220).bind fun t226 => (if t222 = (wrap64 (1 - t226)) then ((billhooklaw01_do.f (⟨#[38, 38]⟩ : ByteArray) t218 t220).bind fun t227 => (if t223 = (wrap64 (1 - t227)) then (if t222 ≥ 0 then (some (decide (t222 ≤ 1))) else (some false)) else (some false))) else (some false))) else (some false)) else (some false))) else (some false))) = some true := H
            have A14 := Aside0.mk A140
            clear A140
            replace H := Option.bind_eq_some_iff.mp H
            obtain ⟨t223, A150, H⟩ := H
            replace H : (if true = true then (if x0_6 = 0 then (if ((t222 == 1) == false) = true then (if ((t223 == 1) == (x1_9 != 0)) = true then ((billhooklaw01_do.f (⟨#[124, 124]⟩ : ByteArray) t218 t220).bind fun t224 => (if t222 = (wrap64 (1 - t224)) then ((billhooklaw01_do.f (⟨#[38, 38]⟩ : ByteArray) t218 t220).bind fun t225 => (if t223 = (wrap64 (1 - t225)) then (if t222 ≥ 0 then (some (decide (t222 ≤ 1))) else (some false)) else (some false))) else (some false))) else (some false)) else (some false)) else (if ((t222 == 1) == (x1_9 != 0)) = true then (if ((t223 == 1) == true) = true then ((billhooklaw01_do.f (⟨#[124, 124]⟩ : ByteArray) t218 t220).bind fun t226 => (if t222 = (wrap64 (1 - t226)) then ((billhooklaw01_do.f (⟨#[38, 38]⟩ : ByteArray) t218 t220).bind fun t227 => (if t223 = (wrap64 (1 - t227)) then (if t222 ≥ 0 then (some (decide (t222 ≤ 1))) else (some false)) else (some false))) else (some false))) else (some false)) else (some false))) else (some false)) = some true := H
            have A15 := Aside0.mk A150
            clear A150
            (first | rw [if_pos (show (true : Bool) = true from rfl)] at H | rw [if_pos True.intro] at H)
            by_cases c16 : x0_6 = 0
            · rw [if_pos c16] at H
              have c16b0 : (x0_6 == 0) = true := beq_iff_eq.mpr c16
              have c16b1 : (x0_6 != 0) = false := bne_eq_false_iff_eq.mpr c16
              clear c16
              by_cases c17 : ((t222 == 1) == false) = true
              · rw [if_pos c17] at H
                have c17b0 : ((t222 == 1) == false) = true := c17
                (try (have c17b1 : decide ((t222 == 1) = false) = true := by simpa using c17))
                (try (have c17b2 : ((t222 == 1) == false) = true := by simpa using c17))
                clear c17
                by_cases c18 : ((t223 == 1) == (x1_9 != 0)) = true
                · rw [if_pos c18] at H
                  have c18b0 : ((t223 == 1) == (x1_9 != 0)) = true := c18
                  (try (have c18b1 : decide ((t223 == 1) = (x1_9 != 0)) = true := by simpa using c18))
                  (try (have c18b2 : ((t223 == 1) == (x1_9 != 0)) = true := by simpa using c18))
                  clear c18
                  replace H := Option.bind_eq_some_iff.mp H
                  obtain ⟨t224, A190, H⟩ := H
                  replace H : (if t222 = (wrap64 (1 - t224)) then ((billhooklaw01_do.f (⟨#[38, 38]⟩ : ByteArray) t218 t220).bind fun t225 => (if t223 = (wrap64 (1 - t225)) then (if t222 ≥ 0 then (some (decide (t222 ≤ 1))) else (some false)) else (some false))) else (some false)) = some true := H
                  have A19 := Aside0.mk A190
                  clear A190
                  by_cases c20 : t222 = (wrap64 (1 - t224))
                  · rw [if_pos c20] at H
                    have c20b0 : (t222 == (wrap64 (1 - t224))) = true := beq_iff_eq.mpr c20
                    have c20b1 : (t222 != (wrap64 (1 - t224))) = false := bne_eq_false_iff_eq.mpr c20
                    clear c20
                    replace H := Option.bind_eq_some_iff.mp H
                    obtain ⟨t225, A210, H⟩ := H
                    replace H : (if t223 = (wrap64 (1 - t225)) then (if t222 ≥ 0 then (some (decide (t222 ≤ 1))) else (some false)) else (some false)) = some true := H
                    have A21 := Aside0.mk A210
                    clear A210
                    by_cases c22 : t223 = (wrap64 (1 - t225))
                    · rw [if_pos c22] at H
                      have c22b0 : (t223 == (wrap64 (1 - t225))) = true := beq_iff_eq.mpr c22
                      have c22b1 : (t223 != (wrap64 (1 - t225))) = false := bne_eq_false_iff_eq.mpr c22
                      clear c22
                      by_cases c23 : t222 ≥ 0
                      · rw [if_pos c23] at H
                        have c23b0 : decide (0 ≤ t222) = true := decide_eq_true c23
                        clear c23
                        have HTh := Aside0.mk (Option.some.inj H)
                        clear H
                        go_wp2_with (first | ((with_reducible refine gate_callee (f := 16) rfl ?_); refine goesL_ (some 23) rfl rfl Tryd.func16 (by kernel_rfl) rfl #[.string (⟨#[33]⟩ : ByteArray), .int .i64 x0_6] rfl (by (try simp only [List.map_toArray, List.map_cons, List.map_nil]); first | done | rfl | (simp only [List.length_drop, List.length_take]; rfl)) ?_; (with_reducible refine (word_Unary.calls (⟨#[33]⟩ : ByteArray) x0_6 t218 t219 _ A12.out).mono ?_); rintro e w' ⟨rfl, ⟨nd, rfl⟩⟩; refine ⟨_, rfl, ?_⟩) | ((with_reducible refine gate_callee (f := 16) rfl ?_); refine goesL_ (some 28) rfl rfl Tryd.func16 (by kernel_rfl) rfl #[.string (⟨#[33]⟩ : ByteArray), .int .i64 x1_9] rfl (by (try simp only [List.map_toArray, List.map_cons, List.map_nil]); first | done | rfl | (simp only [List.length_drop, List.length_take]; rfl)) ?_; (with_reducible refine (word_Unary.calls (⟨#[33]⟩ : ByteArray) x1_9 t220 t221 _ A13.out).mono ?_); rintro e w' ⟨rfl, ⟨nd, rfl⟩⟩; refine ⟨_, rfl, ?_⟩) | ((with_reducible refine gate_callee (f := 24) rfl ?_); refine goesL_ (some 33) rfl rfl Tryd.func24 (by kernel_rfl) rfl #[.string (⟨#[38, 38]⟩ : ByteArray), .int .i64 x0_6, .int .i64 x1_9] rfl (by (try simp only [List.map_toArray, List.map_cons, List.map_nil]); first | done | rfl | (simp only [List.length_drop, List.length_take]; rfl)) ?_; (with_reducible refine (billhooklaw01_do.calls (⟨#[38, 38]⟩ : ByteArray) x0_6 x1_9 t222 _ A14.out).mono ?_); rintro e w24 ⟨rfl, hb⟩; refine ⟨_, rfl, ?_⟩; have n0_ := Aside0.mk (below_step (by repeat (first | (with_reducible first | exact HB.out | apply below_alloc | apply pw_below_drewN | apply below_drew1) | exact HB.out)) hb); clear HB; have HB := n0_; clear n0_; (try clear hb); (try clear hb2); (try clear hk); (try clear hi)) | ((with_reducible refine gate_callee (f := 24) rfl ?_); refine goesL_ (some 36) rfl rfl Tryd.func24 (by kernel_rfl) rfl #[.string (⟨#[124, 124]⟩ : ByteArray), .int .i64 x0_6, .int .i64 x1_9] rfl (by (try simp only [List.map_toArray, List.map_cons, List.map_nil]); first | done | rfl | (simp only [List.length_drop, List.length_take]; rfl)) ?_; (with_reducible refine (billhooklaw01_do.calls (⟨#[124, 124]⟩ : ByteArray) x0_6 x1_9 t223 _ A15.out).mono ?_); rintro e w25 ⟨rfl, hb⟩; refine ⟨_, rfl, ?_⟩; have n0_ := Aside0.mk (below_step (by repeat (first | (with_reducible first | exact HB.out | apply below_alloc | apply pw_below_drewN | apply below_drew1) | exact HB.out)) hb); clear HB; have HB := n0_; clear n0_; (try clear hb); (try clear hb2); (try clear hk); (try clear hi)) | (go_at_call 24; (with_reducible refine (billhooklaw01_do.calls (⟨#[124, 124]⟩ : ByteArray) t218 t220 t224 _ A19.out).mono ?_); rintro e w26 ⟨rfl, hb⟩; have n0_ := Aside0.mk (below_step (by repeat (first | (with_reducible first | exact HB.out | apply below_alloc | apply pw_below_drewN | apply below_drew1) | exact HB.out)) hb); clear HB; have HB := n0_; clear n0_; (try clear hb); (try clear hb2); (try clear hk); (try clear hi)) | (go_at_call 24; (with_reducible refine (billhooklaw01_do.calls (⟨#[38, 38]⟩ : ByteArray) t218 t220 t225 _ A21.out).mono ?_); rintro e w27 ⟨rfl, hb⟩; have n0_ := Aside0.mk (below_step (by repeat (first | (with_reducible first | exact HB.out | apply below_alloc | apply pw_below_drewN | apply below_drew1) | exact HB.out)) hb); clear HB; have HB := n0_; clear n0_; (try clear hb); (try clear hb2); (try clear hk); (try clear hi)))
                        go_ret
                        exact ⟨by first | rfl | exact congrArg (fun b_ => Ending.returned (.bool b_)) HTh.out | (simp [HTh.out]; done) | (simp [errW_none, errW_some] <;> rfl) | (simp [*, errW_none, errW_some] <;> rfl), by repeat (first | (with_reducible first | exact HB.out | apply below_alloc | apply pw_below_drewN | apply below_drew1) | exact HB.out)⟩
                      · rw [if_neg c23] at H
                        have c23b0 : decide (0 ≤ t222) = false := decide_eq_false c23
                        clear c23
                        exact absurd H (by simp)
                    · rw [if_neg c22] at H
                      have c22b0 : (t223 == (wrap64 (1 - t225))) = false := beq_eq_false_iff_ne.mpr c22
                      have c22b1 : (t223 != (wrap64 (1 - t225))) = true := bne_iff_ne.mpr c22
                      exact absurd H (by simp)
                  · rw [if_neg c20] at H
                    have c20b0 : (t222 == (wrap64 (1 - t224))) = false := beq_eq_false_iff_ne.mpr c20
                    have c20b1 : (t222 != (wrap64 (1 - t224))) = true := bne_iff_ne.mpr c20
                    exact absurd H (by simp)
                · rw [if_neg c18] at H
                  have c18b0 : ((t223 == 1) == (x1_9 != 0)) = false := by simpa using c18
                  (try (have c18b1 : decide ((t223 == 1) = (x1_9 != 0)) = false := by simpa using c18))
                  (try (have c18b2 : ((t223 == 1) == (x1_9 != 0)) = false := by simpa using c18))
                  (try (have c18b3 : ¬ ((t223 == 1) = (x1_9 != 0)) := by simpa using c18))
                  clear c18
                  exact absurd H (by simp)
              · rw [if_neg c17] at H
                have c17b0 : ((t222 == 1) == false) = false := by simpa using c17
                (try (have c17b1 : decide ((t222 == 1) = false) = false := by simpa using c17))
                (try (have c17b2 : ((t222 == 1) == false) = false := by simpa using c17))
                (try (have c17b3 : ¬ ((t222 == 1) = false) := by simpa using c17))
                clear c17
                exact absurd H (by simp)
            · rw [if_neg c16] at H
              have c16b0 : (x0_6 == 0) = false := beq_eq_false_iff_ne.mpr c16
              have c16b1 : (x0_6 != 0) = true := bne_iff_ne.mpr c16
              by_cases c28 : ((t222 == 1) == (x1_9 != 0)) = true
              · rw [if_pos c28] at H
                have c28b0 : ((t222 == 1) == (x1_9 != 0)) = true := c28
                (try (have c28b1 : decide ((t222 == 1) = (x1_9 != 0)) = true := by simpa using c28))
                (try (have c28b2 : ((t222 == 1) == (x1_9 != 0)) = true := by simpa using c28))
                clear c28
                by_cases c29 : ((t223 == 1) == true) = true
                · rw [if_pos c29] at H
                  have c29b0 : ((t223 == 1) == true) = true := c29
                  (try (have c29b1 : decide ((t223 == 1) = true) = true := by simpa using c29))
                  (try (have c29b2 : ((t223 == 1) == true) = true := by simpa using c29))
                  clear c29
                  replace H := Option.bind_eq_some_iff.mp H
                  obtain ⟨t226, A300, H⟩ := H
                  replace H : (if t222 = (wrap64 (1 - t226)) then ((billhooklaw01_do.f (⟨#[38, 38]⟩ : ByteArray) t218 t220).bind fun t227 => (if t223 = (wrap64 (1 - t227)) then (if t222 ≥ 0 then (some (decide (t222 ≤ 1))) else (some false)) else (some false))) else (some false)) = some true := H
                  have A30 := Aside0.mk A300
                  clear A300
                  by_cases c31 : t222 = (wrap64 (1 - t226))
                  · rw [if_pos c31] at H
                    have c31b0 : (t222 == (wrap64 (1 - t226))) = true := beq_iff_eq.mpr c31
                    have c31b1 : (t222 != (wrap64 (1 - t226))) = false := bne_eq_false_iff_eq.mpr c31
                    clear c31
                    replace H := Option.bind_eq_some_iff.mp H
                    obtain ⟨t227, A320, H⟩ := H
                    replace H : (if t223 = (wrap64 (1 - t227)) then (if t222 ≥ 0 then (some (decide (t222 ≤ 1))) else (some false)) else (some false)) = some true := H
                    have A32 := Aside0.mk A320
                    clear A320
                    by_cases c33 : t223 = (wrap64 (1 - t227))
                    · rw [if_pos c33] at H
                      have c33b0 : (t223 == (wrap64 (1 - t227))) = true := beq_iff_eq.mpr c33
                      have c33b1 : (t223 != (wrap64 (1 - t227))) = false := bne_eq_false_iff_eq.mpr c33
                      clear c33
                      by_cases c34 : t222 ≥ 0
                      · rw [if_pos c34] at H
                        have c34b0 : decide (0 ≤ t222) = true := decide_eq_true c34
                        clear c34
                        have HTh := Aside0.mk (Option.some.inj H)
                        clear H
                        go_wp2_with (first | ((with_reducible refine gate_callee (f := 16) rfl ?_); refine goesL_ (some 23) rfl rfl Tryd.func16 (by kernel_rfl) rfl #[.string (⟨#[33]⟩ : ByteArray), .int .i64 x0_6] rfl (by (try simp only [List.map_toArray, List.map_cons, List.map_nil]); first | done | rfl | (simp only [List.length_drop, List.length_take]; rfl)) ?_; (with_reducible refine (word_Unary.calls (⟨#[33]⟩ : ByteArray) x0_6 t218 t219 _ A12.out).mono ?_); rintro e w' ⟨rfl, ⟨nd, rfl⟩⟩; refine ⟨_, rfl, ?_⟩) | ((with_reducible refine gate_callee (f := 16) rfl ?_); refine goesL_ (some 28) rfl rfl Tryd.func16 (by kernel_rfl) rfl #[.string (⟨#[33]⟩ : ByteArray), .int .i64 x1_9] rfl (by (try simp only [List.map_toArray, List.map_cons, List.map_nil]); first | done | rfl | (simp only [List.length_drop, List.length_take]; rfl)) ?_; (with_reducible refine (word_Unary.calls (⟨#[33]⟩ : ByteArray) x1_9 t220 t221 _ A13.out).mono ?_); rintro e w' ⟨rfl, ⟨nd, rfl⟩⟩; refine ⟨_, rfl, ?_⟩) | ((with_reducible refine gate_callee (f := 24) rfl ?_); refine goesL_ (some 33) rfl rfl Tryd.func24 (by kernel_rfl) rfl #[.string (⟨#[38, 38]⟩ : ByteArray), .int .i64 x0_6, .int .i64 x1_9] rfl (by (try simp only [List.map_toArray, List.map_cons, List.map_nil]); first | done | rfl | (simp only [List.length_drop, List.length_take]; rfl)) ?_; (with_reducible refine (billhooklaw01_do.calls (⟨#[38, 38]⟩ : ByteArray) x0_6 x1_9 t222 _ A14.out).mono ?_); rintro e w35 ⟨rfl, hb⟩; refine ⟨_, rfl, ?_⟩; have n0_ := Aside0.mk (below_step (by repeat (first | (with_reducible first | exact HB.out | apply below_alloc | apply pw_below_drewN | apply below_drew1) | exact HB.out)) hb); clear HB; have HB := n0_; clear n0_; (try clear hb); (try clear hb2); (try clear hk); (try clear hi)) | ((with_reducible refine gate_callee (f := 24) rfl ?_); refine goesL_ (some 36) rfl rfl Tryd.func24 (by kernel_rfl) rfl #[.string (⟨#[124, 124]⟩ : ByteArray), .int .i64 x0_6, .int .i64 x1_9] rfl (by (try simp only [List.map_toArray, List.map_cons, List.map_nil]); first | done | rfl | (simp only [List.length_drop, List.length_take]; rfl)) ?_; (with_reducible refine (billhooklaw01_do.calls (⟨#[124, 124]⟩ : ByteArray) x0_6 x1_9 t223 _ A15.out).mono ?_); rintro e w36 ⟨rfl, hb⟩; refine ⟨_, rfl, ?_⟩; have n0_ := Aside0.mk (below_step (by repeat (first | (with_reducible first | exact HB.out | apply below_alloc | apply pw_below_drewN | apply below_drew1) | exact HB.out)) hb); clear HB; have HB := n0_; clear n0_; (try clear hb); (try clear hb2); (try clear hk); (try clear hi)) | (go_at_call 24; (with_reducible refine (billhooklaw01_do.calls (⟨#[124, 124]⟩ : ByteArray) t218 t220 t226 _ A30.out).mono ?_); rintro e w37 ⟨rfl, hb⟩; have n0_ := Aside0.mk (below_step (by repeat (first | (with_reducible first | exact HB.out | apply below_alloc | apply pw_below_drewN | apply below_drew1) | exact HB.out)) hb); clear HB; have HB := n0_; clear n0_; (try clear hb); (try clear hb2); (try clear hk); (try clear hi)) | (go_at_call 24; (with_reducible refine (billhooklaw01_do.calls (⟨#[38, 38]⟩ : ByteArray) t218 t220 t227 _ A32.out).mono ?_); rintro e w38 ⟨rfl, hb⟩; have n0_ := Aside0.mk (below_step (by repeat (first | (with_reducible first | exact HB.out | apply below_alloc | apply pw_below_drewN | apply below_drew1) | exact HB.out)) hb); clear HB; have HB := n0_; clear n0_; (try clear hb); (try clear hb2); (try clear hk); (try clear hi)))
                        go_ret
                        exact ⟨by first | rfl | exact congrArg (fun b_ => Ending.returned (.bool b_)) HTh.out | (simp [HTh.out]; done) | (simp [errW_none, errW_some] <;> rfl) | (simp [*, errW_none, errW_some] <;> rfl), by repeat (first | (with_reducible first | exact HB.out | apply below_alloc | apply pw_below_drewN | apply below_drew1) | exact HB.out)⟩
                      · rw [if_neg c34] at H
                        have c34b0 : decide (0 ≤ t222) = false := decide_eq_false c34
                        clear c34
                        exact absurd H (by simp)
                    · rw [if_neg c33] at H
                      have c33b0 : (t223 == (wrap64 (1 - t227))) = false := beq_eq_false_iff_ne.mpr c33
                      have c33b1 : (t223 != (wrap64 (1 - t227))) = true := bne_iff_ne.mpr c33
                      exact absurd H (by simp)
                  · rw [if_neg c31] at H
                    have c31b0 : (t222 == (wrap64 (1 - t226))) = false := beq_eq_false_iff_ne.mpr c31
                    have c31b1 : (t222 != (wrap64 (1 - t226))) = true := bne_iff_ne.mpr c31
                    exact absurd H (by simp)
                · rw [if_neg c29] at H
                  have c29b0 : ((t223 == 1) == true) = false := by simpa using c29
                  (try (have c29b1 : decide ((t223 == 1) = true) = false := by simpa using c29))
                  (try (have c29b2 : ((t223 == 1) == true) = false := by simpa using c29))
                  (try (have c29b3 : ¬ ((t223 == 1) = true) := by simpa using c29))
                  clear c29
                  exact absurd H (by simp)
              · rw [if_neg c28] at H
                have c28b0 : ((t222 == 1) == (x1_9 != 0)) = false := by simpa using c28
                (try (have c28b1 : decide ((t222 == 1) = (x1_9 != 0)) = false := by simpa using c28))
                (try (have c28b2 : ((t222 == 1) == (x1_9 != 0)) = false := by simpa using c28))
                (try (have c28b3 : ¬ ((t222 == 1) = (x1_9 != 0)) := by simpa using c28))
                clear c28
                exact absurd H (by simp)
  · replace c6 := Bool.eq_false_iff.mpr c6
    subst c6
    have H1 : (some false) = some true := by rw [if_neg (show ¬ (false = true) by decide)] at H; exact H
    clear H
    have H := H1
    clear H1
    exact absurd H (by simp)

/-- THE ONE PURE STATEMENT of billhooklaw01_WordLogic: yours. -/
def billhooklaw01_WordLogic.Pure : Prop := ∀ (a0 : Int) (a1 : Int) (a2 : Bool) (a3 : Bool), (Lit.int .i64 a0).wf = true → (Lit.int .i64 a1).wf = true → ∃ k, billhooklaw01_WordLogic.f k a0 a1 a2 a3 = some true
theorem billhooklaw01_WordLogic.walk (P : billhooklaw01_WordLogic.Pure) (a0 : Int) (a1 : Int) (a2 : Bool) (a3 : Bool) (w : World) (hG : GL w) (w0 : (Lit.int .i64 a0).wf = true) (w1 : (Lit.int .i64 a1).wf = true) :
    Calls Tryd.prog 7 #[.int .i64 a0, .int .i64 a1, .bool a2, .bool a3] w fun e w' => e = .returned (.bool true) ∧ Below w.heap.size w w' := by
  obtain ⟨k, h⟩ := P a0 a1 a2 a3 w0 w1
  refine (billhooklaw01_WordLogic.calls k a0 a1 a2 a3 w hG h).mono ?_
  rintro e w' ⟨rfl, hd⟩
  exact ⟨rfl, hd⟩

end Go.Proofs.YtlkabncoaijepaaDoor.PAll
