-- PRINTED by print.py (a twelfth state) out of the translation. Not trusted: Lean checks it.
import Derived.Test.YtlkabncoaijepaaDoorPAllx0
import Derived.Test.YtlkabncoaijepaaDoorPAllx5
import Derived.Test.YtlkabncoaijepaaDoorExtEx
namespace Go.Proofs.YtlkabncoaijepaaDoor.PAll
open Go.RowKit Go.Proofs.YtlkabncoaijepaaDoorW.PrintWords Go.Proofs.YtlkabncoaijepaaDoorW.PrintLast Go.Proofs.YtlkabncoaijepaaDoorW.PrintMore
attribute [local go_sem] max2_int min2_int max_two min_two max_three min_three max_four min_four   -- for this text's walks alone
set_option linter.unusedVariables false
set_option linter.unusedSimpArgs false

open Go.Proofs.YtlkabncoaijepaaDoor.X
/-! ### billhooklaw01_WordOrders: function 5 -/
def billhooklaw01_WordOrders.j0 : Nat → Int → Int → Bool → Option (Bool)
  | 0, _, _, _ => none
  | k + 1, x0, x1, x7 => (billhooklaw01_do.f (⟨#[60]⟩ : ByteArray) x0 x1).bind fun t182 => ((billhooklaw01_do.f (⟨#[62]⟩ : ByteArray) x0 x1).bind fun t183 => ((billhooklaw01_do.f (⟨#[61, 61]⟩ : ByteArray) x0 x1).bind fun t184 => (if x7 = true then (if (wrap64 ((wrap64 (t182 + t183)) + t184)) = 1 then ((billhooklaw01_do.f (⟨#[62, 61]⟩ : ByteArray) x0 x1).bind fun t185 => (if t185 = (wrap64 (1 - t182)) then ((billhooklaw01_do.f (⟨#[60, 61]⟩ : ByteArray) x0 x1).bind fun t186 => (if t186 = (wrap64 (1 - t183)) then ((billhooklaw01_do.f (⟨#[33, 61]⟩ : ByteArray) x0 x1).bind fun t187 => (if t187 = (wrap64 (1 - t184)) then ((billhooklaw01_do.f (⟨#[60]⟩ : ByteArray) x1 x0).bind fun t188 => (if t188 = t183 then (if ((t184 == 1) == (x0 == x1)) = true then ((billhooklaw01_do.f (⟨#[45]⟩ : ByteArray) x0 x1).bind fun t189 => ((billhooklaw01_do.f (⟨#[61, 61]⟩ : ByteArray) t189 0).bind fun t190 => (some (t190 == t184)))) else (some false)) else (some false))) else (some false))) else (some false))) else (some false))) else (some false)) else (some false))))
def billhooklaw01_WordOrders.f (k : Nat) (a0 : Int) (a1 : Int) (a2 : Bool) : Option (Bool) := (billhooklaw01_examples.f).bind fun t181 => (if t181 = true then (if a2 = true then (billhooklaw01_WordOrders.j0 k a0 a0 t181) else (billhooklaw01_WordOrders.j0 k a0 a1 t181)) else (some false))
theorem billhooklaw01_WordOrders.mono_l : ∀ k, (∀ y0 y1 y2, LeO (billhooklaw01_WordOrders.j0 k y0 y1 y2) (billhooklaw01_WordOrders.j0 (k + 1) y0 y1 y2))
  | 0 => fun _ _ _ r h => by simp [billhooklaw01_WordOrders.j0] at h
  | k + 1 => by
    have ih0 := billhooklaw01_WordOrders.mono_l k
    · intro y0 y1 y2
      unfold billhooklaw01_WordOrders.j0
      repeat' first
      | (with_reducible exact ih0 _ _ _)
      | (with_reducible exact LeO.refl _)
      | (with_reducible exact LeO.none _)
      | (with_reducible refine LeO.ite ?_ ?_)
      | (with_reducible refine LeO.bind ?_ (fun _ => ?_))
      | exact ih0 _ _ _
      | exact LeO.none _
      | refine LeO.ite ?_ ?_
      | refine LeO.bind ?_ (fun _ => ?_)
theorem billhooklaw01_WordOrders.mono : ∀ a0 a1 a2 k, LeO (billhooklaw01_WordOrders.f k a0 a1 a2) (billhooklaw01_WordOrders.f (k + 1) a0 a1 a2) := by
  intro a0 a1 a2 k
  have ih0 := billhooklaw01_WordOrders.mono_l k
  unfold billhooklaw01_WordOrders.f
  repeat' first
      | (with_reducible exact ih0 _ _ _)
      | (with_reducible exact LeO.refl _)
      | (with_reducible exact LeO.none _)
      | (with_reducible refine LeO.ite ?_ ?_)
      | (with_reducible refine LeO.bind ?_ (fun _ => ?_))
      | exact ih0 _ _ _
      | exact LeO.none _
      | refine LeO.ite ?_ ?_
      | refine LeO.bind ?_ (fun _ => ?_)
set_option maxHeartbeats 8000000 in
set_option maxRecDepth 100000 in
theorem billhooklaw01_WordOrders.calls (k : Nat) (a0 : Int) (a1 : Int) (a2 : Bool) (w : World) (hG : GL w) (h : billhooklaw01_WordOrders.f k a0 a1 a2 = some true) :
    Calls Tryd.prog 5 #[.int .i64 a0, .int .i64 a1, .bool a2] w fun e w' => e = .returned (.bool true) ∧ Below w.heap.size w w' := by
  have HB := Aside0.mk (Below.refl w.heap.size w)
  have H : ((billhooklaw01_examples.f).bind fun t181 => (if t181 = true then (if a2 = true then (billhooklaw01_WordOrders.j0 k a0 a0 t181) else (billhooklaw01_WordOrders.j0 k a0 a1 t181)) else (some false))) = some true := h
  clear h
  replace H := Option.bind_eq_some_iff.mp H
  obtain ⟨t181, A40, H⟩ := H
  replace H : (if t181 = true then (if a2 = true then (billhooklaw01_WordOrders.j0 k a0 a0 t181) else (billhooklaw01_WordOrders.j0 k a0 a1 t181)) else (some false)) = some true := H
  have A4 := Aside0.mk A40
  clear A40
  by_cases c5 : t181 = true
  · subst c5
    have H1 : (if a2 = true then (billhooklaw01_WordOrders.j0 k a0 a0 true) else (billhooklaw01_WordOrders.j0 k a0 a1 true)) = some true := by rw [if_pos rfl] at H; exact H
    clear H
    have H := H1
    clear H1
    have HC6 := Aside0.mk H
    clear H
    go_enter Tryd.func5, Tryd.ntmps5
    go_upto_if 14 with (first | ((with_reducible refine gate_callee (f := 11) rfl ?_); refine goesL_ (some 11) rfl rfl Tryd.func11 (by kernel_rfl) rfl #[] rfl (by (try simp only [List.map_toArray, List.map_cons, List.map_nil]); first | done | rfl | (simp only [List.length_drop, List.length_take]; rfl)) ?_; (with_reducible refine (billhooklaw01_examples.calls  true _ ?side1 A4.out).mono ?_); (case side1 => exact GL.below hG (by repeat (first | (with_reducible first | exact HB.out | apply below_alloc | apply pw_below_drewN | apply below_drew1) | exact HB.out))); rintro e w7 ⟨rfl, hb⟩; refine ⟨_, rfl, ?_⟩; have n0_ := Aside0.mk (below_step (by repeat (first | (with_reducible first | exact HB.out | apply below_alloc | apply pw_below_drewN | apply below_drew1) | exact HB.out)) hb); clear HB; have HB := n0_; clear n0_; (try clear hb); (try clear hb2); (try clear hk); (try clear hi)))
    (try simp only [Act.put, List.setIfInBounds_toArray, List.set_cons_zero, List.set_cons_succ])
    go_cut [1] (fun v1 wc => ∃ (kq : Nat) (x1_5 : Int), v1 = .int .i64 x1_5 ∧ Aside0 (billhooklaw01_WordOrders.j0 kq a0 x1_5 true = some true) ∧ Aside0 (kq ≤ k) ∧ Aside0 (Below w.heap.size w wc))
    case first =>
      have H := HC6.out
      clear HC6
      by_cases c8 : a2 = true
      · subst c8
        have H1 : (billhooklaw01_WordOrders.j0 k a0 a0 true) = some true := by rw [if_pos rfl] at H; exact H
        clear H
        have H := H1
        clear H1
        have H' := Aside0.mk H
        clear H
        go_wp2
        go_meet
        case rel => exact ⟨_, (a0), (by first | rfl | (simp; done) | (simp [*]; done)), H', ⟨by first | omega | exact Nat.le_refl _⟩, ⟨by repeat (first | (with_reducible first | exact HB.out | apply below_alloc | apply pw_below_drewN | apply below_drew1) | exact HB.out)⟩⟩
      · replace c8 := Bool.eq_false_iff.mpr c8
        subst c8
        have H1 : (billhooklaw01_WordOrders.j0 k a0 a1 true) = some true := by rw [if_neg (show ¬ (false = true) by decide)] at H; exact H
        clear H
        have H := H1
        clear H1
        have H' := Aside0.mk H
        clear H
        go_wp2
        go_meet
        case rel => exact ⟨_, (a1), (by first | rfl | (simp; done) | (simp [*]; done)), H', ⟨by first | omega | exact Nat.le_refl _⟩, ⟨by repeat (first | (with_reducible first | exact HB.out | apply below_alloc | apply pw_below_drewN | apply below_drew1) | exact HB.out)⟩⟩
    case rest =>
      clear HC6
      try clear c1
      try clear p2
      try clear c5
      try clear c8
      obtain ⟨kq, x1_5, rfl, HA, HJ5, HB⟩ := hcut
      cases kq with
      | zero => exact absurd HA.out (by simp [billhooklaw01_WordOrders.j0])
      | succ kj5 =>
        have H := HA.out
        clear HA
        simp only [billhooklaw01_WordOrders.j0] at H
        replace H := Option.bind_eq_some_iff.mp H
        obtain ⟨t182, A90, H⟩ := H
        replace H : ((billhooklaw01_do.f (⟨#[62]⟩ : ByteArray) a0 x1_5).bind fun t183 => ((billhooklaw01_do.f (⟨#[61, 61]⟩ : ByteArray) a0 x1_5).bind fun t184 => (if true = true then (if (wrap64 ((wrap64 (t182 + t183)) + t184)) = 1 then ((billhooklaw01_do.f (⟨#[62, 61]⟩ : ByteArray) a0 x1_5).bind fun t185 => (if t185 = (wrap64 (1 - t182)) then ((billhooklaw01_do.f (⟨#[60, 61]⟩ : ByteArray) a0 x1_5).bind fun t186 => (if t186 = (wrap64 (1 - t183)) then ((billhooklaw01_do.f (⟨#[33, 61]⟩ : ByteArray) a0 x1_5).bind fun t187 => (if t187 = (wrap64 (1 - t184)) then ((billhooklaw01_do.f (⟨#[60]⟩ : ByteArray) x1_5 a0).bind fun t188 => (if t188 = t183 then (if ((t184 == 1) == (a0 == x1_5)) = true then ((billhooklaw01_do.f (⟨#[45]⟩ : ByteArray) a0 x1_5).bind fun t189 => ((billhooklaw01_do.f (⟨#[61, 61]⟩ : ByteArray) t189 0).bind fun t190 => (some (t190 == t184)))) else (some false)) else (some false))) else (some false))) else (some false))) else (some false))) else (some false)) else (some false)))) = some true := H
        have A9 := Aside0.mk A90
        clear A90
        replace H := Option.bind_eq_some_iff.mp H
        obtain ⟨t183, A100, H⟩ := H
        replace H : ((billhooklaw01_do.f (⟨#[61, 61]⟩ : ByteArray) a0 x1_5).bind fun t184 => (if true = true then (if (wrap64 ((wrap64 (t182 + t183)) + t184)) = 1 then ((billhooklaw01_do.f (⟨#[62, 61]⟩ : ByteArray) a0 x1_5).bind fun t185 => (if t185 = (wrap64 (1 - t182)) then ((billhooklaw01_do.f (⟨#[60, 61]⟩ : ByteArray) a0 x1_5).bind fun t186 => (if t186 = (wrap64 (1 - t183)) then ((billhooklaw01_do.f (⟨#[33, 61]⟩ : ByteArray) a0 x1_5).bind fun t187 => (if t187 = (wrap64 (1 - t184)) then ((billhooklaw01_do.f (⟨#[60]⟩ : ByteArray) x1_5 a0).bind fun t188 => (if t188 = t183 then (if ((t184 == 1) == (a0 == x1_5)) = true then ((billhooklaw01_do.f (⟨#[45]⟩ : ByteArray) a0 x1_5).bind fun t189 => ((billhooklaw01_do.f (⟨#[61, 61]⟩ : ByteArray) t189 0).bind fun t190 => (some (t190 == t184)))) else (some false)) else (some false))) else (some false))) else (some false))) else (some false))) else (some false)) else (some false))) = some true := H
        have A10 := Aside0.mk A100
        clear A100
        replace H := Option.bind_eq_some_iff.mp H
        obtain ⟨t184, A110, H⟩ := H
        replace H : (if true = true then (if (wrap64 ((wrap64 (t182 + t183)) + t184)) = 1 then ((billhooklaw01_do.f (⟨#[62, 61]⟩ : ByteArray) a0 x1_5).bind fun t185 => (if t185 = (wrap64 (1 - t182)) then ((billhooklaw01_do.f (⟨#[60, 61]⟩ : ByteArray) a0 x1_5).bind fun t186 => (if t186 = (wrap64 (1 - t183)) then ((billhooklaw01_do.f (⟨#[33, 61]⟩ : ByteArray) a0 x1_5).bind fun t187 => (if t187 = (wrap64 (1 - t184)) then ((billhooklaw01_do.f (⟨#[60]⟩ : ByteArray) x1_5 a0).bind fun t188 => (if t188 = t183 then (if ((t184 == 1) == (a0 == x1_5)) = true then ((billhooklaw01_do.f (⟨#[45]⟩ : ByteArray) a0 x1_5).bind fun t189 => ((billhooklaw01_do.f (⟨#[61, 61]⟩ : ByteArray) t189 0).bind fun t190 => (some (t190 == t184)))) else (some false)) else (some false))) else (some false))) else (some false))) else (some false))) else (some false)) else (some false)) = some true := H
        have A11 := Aside0.mk A110
        clear A110
        (first | rw [if_pos (show (true : Bool) = true from rfl)] at H | rw [if_pos True.intro] at H)
        by_cases c12 : (wrap64 ((wrap64 (t182 + t183)) + t184)) = 1
        · rw [if_pos c12] at H
          have c12b0 : ((wrap64 ((wrap64 (t182 + t183)) + t184)) == 1) = true := beq_iff_eq.mpr c12
          have c12b1 : ((wrap64 ((wrap64 (t182 + t183)) + t184)) != 1) = false := bne_eq_false_iff_eq.mpr c12
          clear c12
          replace H := Option.bind_eq_some_iff.mp H
          obtain ⟨t185, A130, H⟩ := H
          replace H : (if t185 = (wrap64 (1 - t182)) then ((billhooklaw01_do.f (⟨#[60, 61]⟩ : ByteArray) a0 x1_5).bind fun t186 => (if t186 = (wrap64 (1 - t183)) then ((billhooklaw01_do.f (⟨#[33, 61]⟩ : ByteArray) a0 x1_5).bind fun t187 => (if t187 = (wrap64 (1 - t184)) then ((billhooklaw01_do.f (⟨#[60]⟩ : ByteArray) x1_5 a0).bind fun t188 => (if t188 = t183 then (if ((t184 == 1) == (a0 == x1_5)) = true then ((billhooklaw01_do.f (⟨#[45]⟩ : ByteArray) a0 x1_5).bind fun t189 => ((billhooklaw01_do.f (⟨#[61, 61]⟩ : ByteArray) t189 0).bind fun t190 => (some (t190 == t184)))) else (some false)) else (some false))) else (some false))) else (some false))) else (some false)) = some true := H
          have A13 := Aside0.mk A130
          clear A130
          by_cases c14 : t185 = (wrap64 (1 - t182))
          · rw [if_pos c14] at H
            have c14b0 : (t185 == (wrap64 (1 - t182))) = true := beq_iff_eq.mpr c14
            have c14b1 : (t185 != (wrap64 (1 - t182))) = false := bne_eq_false_iff_eq.mpr c14
            clear c14
            replace H := Option.bind_eq_some_iff.mp H
            obtain ⟨t186, A150, H⟩ := H
            replace H : (if t186 = (wrap64 (1 - t183)) then ((billhooklaw01_do.f (⟨#[33, 61]⟩ : ByteArray) a0 x1_5).bind fun t187 => (if t187 = (wrap64 (1 - t184)) then ((billhooklaw01_do.f (⟨#[60]⟩ : ByteArray) x1_5 a0).bind fun t188 => (if t188 = t183 then (if ((t184 == 1) == (a0 == x1_5)) = true then ((billhooklaw01_do.f (⟨#[45]⟩ : ByteArray) a0 x1_5).bind fun t189 => ((billhooklaw01_do.f (⟨#[61, 61]⟩ : ByteArray) t189 0).bind fun t190 => (some (t190 == t184)))) else (some false)) else (some false))) else (some false))) else (some false)) = some true := H
            have A15 := Aside0.mk A150
            clear A150
            by_cases c16 : t186 = (wrap64 (1 - t183))
            · rw [if_pos c16] at H
              have c16b0 : (t186 == (wrap64 (1 - t183))) = true := beq_iff_eq.mpr c16
              have c16b1 : (t186 != (wrap64 (1 - t183))) = false := bne_eq_false_iff_eq.mpr c16
              clear c16
              replace H := Option.bind_eq_some_iff.mp H
              obtain ⟨t187, A170, H⟩ := H
              replace H : (if t187 = (wrap64 (1 - t184)) then ((billhooklaw01_do.f (⟨#[60]⟩ : ByteArray) x1_5 a0).bind fun t188 => (if t188 = t183 then (if ((t184 == 1) == (a0 == x1_5)) = true then ((billhooklaw01_do.f (⟨#[45]⟩ : ByteArray) a0 x1_5).bind fun t189 => ((billhooklaw01_do.f (⟨#[61, 61]⟩ : ByteArray) t189 0).bind fun t190 => (some (t190 == t184)))) else (some false)) else (some false))) else (some false)) = some true := H
              have A17 := Aside0.mk A170
              clear A170
              by_cases c18 : t187 = (wrap64 (1 - t184))
              · rw [if_pos c18] at H
                have c18b0 : (t187 == (wrap64 (1 - t184))) = true := beq_iff_eq.mpr c18
                have c18b1 : (t187 != (wrap64 (1 - t184))) = false := bne_eq_false_iff_eq.mpr c18
                clear c18
                replace H := Option.bind_eq_some_iff.mp H
                obtain ⟨t188, A190, H⟩ := H
                replace H : (if t188 = t183 then (if ((t184 == 1) == (a0 == x1_5)) = true then ((billhooklaw01_do.f (⟨#[45]⟩ : ByteArray) a0 x1_5).bind fun t189 => ((billhooklaw01_do.f (⟨#[61, 61]⟩ : ByteArray) t189 0).bind fun t190 => (some (t190 == t184)))) else (some false)) else (some false)) = some true := H
                have A19 := Aside0.mk A190
                clear A190
                by_cases c20 : t188 = t183
                · rw [if_pos c20] at H
                  have c20b0 : (t188 == t183) = true := beq_iff_eq.mpr c20
                  have c20b1 : (t188 != t183) = false := bne_eq_false_iff_eq.mpr c20
                  clear c20
                  by_cases c21 : ((t184 == 1) == (a0 == x1_5)) = true
                  · rw [if_pos c21] at H
                    have c21b0 : ((t184 == 1) == (a0 == x1_5)) = true := c21
                    (try (have c21b1 : decide ((t184 == 1) = (a0 == x1_5)) = true := by simpa using c21))
                    (try (have c21b2 : ((t184 == 1) == (a0 == x1_5)) = true := by simpa using c21))
                    clear c21
                    replace H := Option.bind_eq_some_iff.mp H
                    obtain ⟨t189, A220, H⟩ := H
                    replace H : ((billhooklaw01_do.f (⟨#[61, 61]⟩ : ByteArray) t189 0).bind fun t190 => (some (t190 == t184))) = some true := H
                    have A22 := Aside0.mk A220
                    clear A220
                    replace H := Option.bind_eq_some_iff.mp H
                    obtain ⟨t190, A230, H⟩ := H
                    replace H : (some (t190 == t184)) = some true := H
                    have A23 := Aside0.mk A230
                    clear A230
                    have HTh := Aside0.mk (Option.some.inj H)
                    clear H
                    go_wp2_with (first | ((with_reducible refine gate_callee (f := 24) rfl ?_); refine goesL_ (some 18) rfl rfl Tryd.func24 (by kernel_rfl) rfl #[.string (⟨#[60]⟩ : ByteArray), .int .i64 a0, .int .i64 x1_5] rfl (by (try simp only [List.map_toArray, List.map_cons, List.map_nil]); first | done | rfl | (simp only [List.length_drop, List.length_take]; rfl)) ?_; (with_reducible refine (billhooklaw01_do.calls (⟨#[60]⟩ : ByteArray) a0 x1_5 t182 _ A9.out).mono ?_); rintro e w24 ⟨rfl, hb⟩; refine ⟨_, rfl, ?_⟩; have n0_ := Aside0.mk (below_step (by repeat (first | (with_reducible first | exact HB.out | apply below_alloc | apply pw_below_drewN | apply below_drew1) | exact HB.out)) hb); clear HB; have HB := n0_; clear n0_; (try clear hb); (try clear hb2); (try clear hk); (try clear hi)) | ((with_reducible refine gate_callee (f := 24) rfl ?_); refine goesL_ (some 21) rfl rfl Tryd.func24 (by kernel_rfl) rfl #[.string (⟨#[62]⟩ : ByteArray), .int .i64 a0, .int .i64 x1_5] rfl (by (try simp only [List.map_toArray, List.map_cons, List.map_nil]); first | done | rfl | (simp only [List.length_drop, List.length_take]; rfl)) ?_; (with_reducible refine (billhooklaw01_do.calls (⟨#[62]⟩ : ByteArray) a0 x1_5 t183 _ A10.out).mono ?_); rintro e w25 ⟨rfl, hb⟩; refine ⟨_, rfl, ?_⟩; have n0_ := Aside0.mk (below_step (by repeat (first | (with_reducible first | exact HB.out | apply below_alloc | apply pw_below_drewN | apply below_drew1) | exact HB.out)) hb); clear HB; have HB := n0_; clear n0_; (try clear hb); (try clear hb2); (try clear hk); (try clear hi)) | ((with_reducible refine gate_callee (f := 24) rfl ?_); refine goesL_ (some 24) rfl rfl Tryd.func24 (by kernel_rfl) rfl #[.string (⟨#[61, 61]⟩ : ByteArray), .int .i64 a0, .int .i64 x1_5] rfl (by (try simp only [List.map_toArray, List.map_cons, List.map_nil]); first | done | rfl | (simp only [List.length_drop, List.length_take]; rfl)) ?_; (with_reducible refine (billhooklaw01_do.calls (⟨#[61, 61]⟩ : ByteArray) a0 x1_5 t184 _ A11.out).mono ?_); rintro e w26 ⟨rfl, hb⟩; refine ⟨_, rfl, ?_⟩; have n0_ := Aside0.mk (below_step (by repeat (first | (with_reducible first | exact HB.out | apply below_alloc | apply pw_below_drewN | apply below_drew1) | exact HB.out)) hb); clear HB; have HB := n0_; clear n0_; (try clear hb); (try clear hb2); (try clear hk); (try clear hi)) | (go_at_call 24; (with_reducible refine (billhooklaw01_do.calls (⟨#[62, 61]⟩ : ByteArray) a0 x1_5 t185 _ A13.out).mono ?_); rintro e w27 ⟨rfl, hb⟩; have n0_ := Aside0.mk (below_step (by repeat (first | (with_reducible first | exact HB.out | apply below_alloc | apply pw_below_drewN | apply below_drew1) | exact HB.out)) hb); clear HB; have HB := n0_; clear n0_; (try clear hb); (try clear hb2); (try clear hk); (try clear hi)) | (go_at_call 24; (with_reducible refine (billhooklaw01_do.calls (⟨#[60, 61]⟩ : ByteArray) a0 x1_5 t186 _ A15.out).mono ?_); rintro e w28 ⟨rfl, hb⟩; have n0_ := Aside0.mk (below_step (by repeat (first | (with_reducible first | exact HB.out | apply below_alloc | apply pw_below_drewN | apply below_drew1) | exact HB.out)) hb); clear HB; have HB := n0_; clear n0_; (try clear hb); (try clear hb2); (try clear hk); (try clear hi)) | (go_at_call 24; (with_reducible refine (billhooklaw01_do.calls (⟨#[33, 61]⟩ : ByteArray) a0 x1_5 t187 _ A17.out).mono ?_); rintro e w29 ⟨rfl, hb⟩; have n0_ := Aside0.mk (below_step (by repeat (first | (with_reducible first | exact HB.out | apply below_alloc | apply pw_below_drewN | apply below_drew1) | exact HB.out)) hb); clear HB; have HB := n0_; clear n0_; (try clear hb); (try clear hb2); (try clear hk); (try clear hi)) | (go_at_call 24; (with_reducible refine (billhooklaw01_do.calls (⟨#[60]⟩ : ByteArray) x1_5 a0 t188 _ A19.out).mono ?_); rintro e w30 ⟨rfl, hb⟩; have n0_ := Aside0.mk (below_step (by repeat (first | (with_reducible first | exact HB.out | apply below_alloc | apply pw_below_drewN | apply below_drew1) | exact HB.out)) hb); clear HB; have HB := n0_; clear n0_; (try clear hb); (try clear hb2); (try clear hk); (try clear hi)) | (go_at_call 24; (with_reducible refine (billhooklaw01_do.calls (⟨#[45]⟩ : ByteArray) a0 x1_5 t189 _ A22.out).mono ?_); rintro e w31 ⟨rfl, hb⟩; have n0_ := Aside0.mk (below_step (by repeat (first | (with_reducible first | exact HB.out | apply below_alloc | apply pw_below_drewN | apply below_drew1) | exact HB.out)) hb); clear HB; have HB := n0_; clear n0_; (try clear hb); (try clear hb2); (try clear hk); (try clear hi)) | (go_at_call 24; (with_reducible refine (billhooklaw01_do.calls (⟨#[61, 61]⟩ : ByteArray) t189 0 t190 _ A23.out).mono ?_); rintro e w32 ⟨rfl, hb⟩; have n0_ := Aside0.mk (below_step (by repeat (first | (with_reducible first | exact HB.out | apply below_alloc | apply pw_below_drewN | apply below_drew1) | exact HB.out)) hb); clear HB; have HB := n0_; clear n0_; (try clear hb); (try clear hb2); (try clear hk); (try clear hi)))
                    go_ret
                    exact ⟨by first | rfl | exact congrArg (fun b_ => Ending.returned (.bool b_)) HTh.out | (simp [HTh.out]; done) | (simp [errW_none, errW_some] <;> rfl) | (simp [*, errW_none, errW_some] <;> rfl), by repeat (first | (with_reducible first | exact HB.out | apply below_alloc | apply pw_below_drewN | apply below_drew1) | exact HB.out)⟩
                  · rw [if_neg c21] at H
                    have c21b0 : ((t184 == 1) == (a0 == x1_5)) = false := by simpa using c21
                    (try (have c21b1 : decide ((t184 == 1) = (a0 == x1_5)) = false := by simpa using c21))
                    (try (have c21b2 : ((t184 == 1) == (a0 == x1_5)) = false := by simpa using c21))
                    (try (have c21b3 : ¬ ((t184 == 1) = (a0 == x1_5)) := by simpa using c21))
                    clear c21
                    exact absurd H (by simp)
                · rw [if_neg c20] at H
                  have c20b0 : (t188 == t183) = false := beq_eq_false_iff_ne.mpr c20
                  have c20b1 : (t188 != t183) = true := bne_iff_ne.mpr c20
                  exact absurd H (by simp)
              · rw [if_neg c18] at H
                have c18b0 : (t187 == (wrap64 (1 - t184))) = false := beq_eq_false_iff_ne.mpr c18
                have c18b1 : (t187 != (wrap64 (1 - t184))) = true := bne_iff_ne.mpr c18
                exact absurd H (by simp)
            · rw [if_neg c16] at H
              have c16b0 : (t186 == (wrap64 (1 - t183))) = false := beq_eq_false_iff_ne.mpr c16
              have c16b1 : (t186 != (wrap64 (1 - t183))) = true := bne_iff_ne.mpr c16
              exact absurd H (by simp)
          · rw [if_neg c14] at H
            have c14b0 : (t185 == (wrap64 (1 - t182))) = false := beq_eq_false_iff_ne.mpr c14
            have c14b1 : (t185 != (wrap64 (1 - t182))) = true := bne_iff_ne.mpr c14
            exact absurd H (by simp)
        · rw [if_neg c12] at H
          have c12b0 : ((wrap64 ((wrap64 (t182 + t183)) + t184)) == 1) = false := beq_eq_false_iff_ne.mpr c12
          have c12b1 : ((wrap64 ((wrap64 (t182 + t183)) + t184)) != 1) = true := bne_iff_ne.mpr c12
          exact absurd H (by simp)
  · replace c5 := Bool.eq_false_iff.mpr c5
    subst c5
    have H1 : (some false) = some true := by rw [if_neg (show ¬ (false = true) by decide)] at H; exact H
    clear H
    have H := H1
    clear H1
    exact absurd H (by simp)

/-- THE ONE PURE STATEMENT of billhooklaw01_WordOrders: yours. -/
def billhooklaw01_WordOrders.Pure : Prop := ∀ (a0 : Int) (a1 : Int) (a2 : Bool), (Lit.int .i64 a0).wf = true → (Lit.int .i64 a1).wf = true → ∃ k, billhooklaw01_WordOrders.f k a0 a1 a2 = some true
theorem billhooklaw01_WordOrders.walk (P : billhooklaw01_WordOrders.Pure) (a0 : Int) (a1 : Int) (a2 : Bool) (w : World) (hG : GL w) (w0 : (Lit.int .i64 a0).wf = true) (w1 : (Lit.int .i64 a1).wf = true) :
    Calls Tryd.prog 5 #[.int .i64 a0, .int .i64 a1, .bool a2] w fun e w' => e = .returned (.bool true) ∧ Below w.heap.size w w' := by
  obtain ⟨k, h⟩ := P a0 a1 a2 w0 w1
  refine (billhooklaw01_WordOrders.calls k a0 a1 a2 w hG h).mono ?_
  rintro e w' ⟨rfl, hd⟩
  exact ⟨rfl, hd⟩

end Go.Proofs.YtlkabncoaijepaaDoor.PAll
