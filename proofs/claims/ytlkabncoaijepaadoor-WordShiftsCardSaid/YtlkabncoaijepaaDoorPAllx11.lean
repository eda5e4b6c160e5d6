-- PRINTED by print.py (a twelfth state) out of the translation. Not trusted: Lean checks it.
import Derived.Test.YtlkabncoaijepaaDoorPAllx0
import Derived.Test.YtlkabncoaijepaaDoorPAllx5
import Derived.Test.YtlkabncoaijepaaDoorExtEx
namespace Go.Proofs.YtlkabncoaijepaaDoor.PAll
open Go.RowKit Go.Proofs.YtlkabncoaijepaaDoorW.PrintWords Go.Proofs.YtlkabncoaijepaaDoorW.PrintLast Go.Proofs.YtlkabncoaijepaaDoorW.PrintMore
attribute [local go_sem] max2_int min2_int max_two min_two max_three min_three max_four min_four   -- for this text's walks alone
set_option linter.unusedVariables false
set_option linter.unusedSimpArgs false

open Go.Proofs.YtlkabncoaijepaaDoor.X
/-! ### billhooklaw01_WordShifts: function 9 -/
mutual
def billhooklaw01_WordShifts.j0 : Nat → Int → Int → Bool → Option (Bool)
  | 0, _, _, _ => none
  | k + 1, x0, x1, x7 => (word_Binary.f (⟨#[60, 60]⟩ : ByteArray) x0 x1).bind fun bt235 => ((word_Binary.f (⟨#[62, 62]⟩ : ByteArray) x0 x1).bind fun bt237 => (if x1 < 0 then (billhooklaw01_WordShifts.j1 k x0 x1 x7 bt235.1 bt235.2 bt237.1 bt237.2 true) else (billhooklaw01_WordShifts.j1 k x0 x1 x7 bt235.1 bt235.2 bt237.1 bt237.2 (decide (x1 > 63)))))
def billhooklaw01_WordShifts.j1 : Nat → Int → Int → Bool → Int → Int → Int → Int → Bool → Option (Bool)
  | 0, _, _, _, _, _, _, _, _ => none
  | k + 1, x0, x1, x7, x8, x9, x10, x11, x40 => if x40 = true then (if x7 = true then (if x9 = 2 then (if x11 = 2 then (if x8 = 0 then (some (x10 == 0)) else (some false)) else (some false)) else (some false)) else (some false)) else ((word_Binary.f (⟨#[62, 62]⟩ : ByteArray) x8 x1).bind fun bt239 => ((word_Binary.f (⟨#[60, 60]⟩ : ByteArray) bt239.1 x1).bind fun bt241 => ((billhooklaw01_do.f (⟨#[62, 62]⟩ : ByteArray) x10 (wrap64 (63 - x1))).bind fun t243 => ((billhooklaw01_do.f (⟨#[62, 62]⟩ : ByteArray) x0 63).bind fun t244 => ((billhooklaw01_do.f (⟨#[61, 61]⟩ : ByteArray) t243 t244).bind fun t245 => (if x7 = true then (if x9 = 0 then (if x11 = 0 then (if bt239.2 = 0 then (if bt241.1 = x8 then (some (t245 == 1)) else (some false)) else (some false)) else (some false)) else (some false)) else (some false)))))))
end
def billhooklaw01_WordShifts.f (k : Nat) (a0 : Int) (a1 : Int) (a2 : Bool) : Option (Bool) := (billhooklaw01_examples.f).bind fun t234 => (if t234 = true then (if a2 = true then (billhooklaw01_WordShifts.j0 k a0 (Int.tmod a1 64) t234) else (billhooklaw01_WordShifts.j0 k a0 a1 t234)) else (some false))
theorem billhooklaw01_WordShifts.mono_l : ∀ k, (∀ y0 y1 y2, LeO (billhooklaw01_WordShifts.j0 k y0 y1 y2) (billhooklaw01_WordShifts.j0 (k + 1) y0 y1 y2)) ∧ (∀ y0 y1 y2 y3 y4 y5 y6 y7, LeO (billhooklaw01_WordShifts.j1 k y0 y1 y2 y3 y4 y5 y6 y7) (billhooklaw01_WordShifts.j1 (k + 1) y0 y1 y2 y3 y4 y5 y6 y7))
  | 0 => ⟨fun _ _ _ r h => by simp [billhooklaw01_WordShifts.j0] at h, fun _ _ _ _ _ _ _ _ r h => by simp [billhooklaw01_WordShifts.j1] at h⟩
  | k + 1 => by
    obtain ⟨ih0, ih1⟩ := billhooklaw01_WordShifts.mono_l k
    refine ⟨?_, ?_⟩
    · intro y0 y1 y2
      unfold billhooklaw01_WordShifts.j0
      repeat' first
      | (with_reducible exact ih0 _ _ _)
      | (with_reducible exact ih1 _ _ _ _ _ _ _ _)
      | (with_reducible exact LeO.refl _)
      | (with_reducible exact LeO.none _)
      | (with_reducible refine LeO.ite ?_ ?_)
      | (with_reducible refine LeO.bind ?_ (fun _ => ?_))
      | exact ih0 _ _ _
      | exact ih1 _ _ _ _ _ _ _ _
      | exact LeO.none _
      | refine LeO.ite ?_ ?_
      | refine LeO.bind ?_ (fun _ => ?_)
    · intro y0 y1 y2 y3 y4 y5 y6 y7
      unfold billhooklaw01_WordShifts.j1
      repeat' first
      | (with_reducible exact ih0 _ _ _)
      | (with_reducible exact ih1 _ _ _ _ _ _ _ _)
      | (with_reducible exact LeO.refl _)
      | (with_reducible exact LeO.none _)
      | (with_reducible refine LeO.ite ?_ ?_)
      | (with_reducible refine LeO.bind ?_ (fun _ => ?_))
      | exact ih0 _ _ _
      | exact ih1 _ _ _ _ _ _ _ _
      | exact LeO.none _
      | refine LeO.ite ?_ ?_
      | refine LeO.bind ?_ (fun _ => ?_)
theorem billhooklaw01_WordShifts.mono : ∀ a0 a1 a2 k, LeO (billhooklaw01_WordShifts.f k a0 a1 a2) (billhooklaw01_WordShifts.f (k + 1) a0 a1 a2) := by
  intro a0 a1 a2 k
  obtain ⟨ih0, ih1⟩ := billhooklaw01_WordShifts.mono_l k
  unfold billhooklaw01_WordShifts.f
  repeat' first
      | (with_reducible exact ih0 _ _ _)
      | (with_reducible exact ih1 _ _ _ _ _ _ _ _)
      | (with_reducible exact LeO.refl _)
      | (with_reducible exact LeO.none _)
      | (with_reducible refine LeO.ite ?_ ?_)
      | (with_reducible refine LeO.bind ?_ (fun _ => ?_))
      | exact ih0 _ _ _
      | exact ih1 _ _ _ _ _ _ _ _
      | exact LeO.none _
      | refine LeO.ite ?_ ?_
      | refine LeO.bind ?_ (fun _ => ?_)
set_option maxHeartbeats 8000000 in
set_option maxRecDepth 100000 in
theorem billhooklaw01_WordShifts.calls (k : Nat) (a0 : Int) (a1 : Int) (a2 : Bool) (w : World) (hG : GL w) (h : billhooklaw01_WordShifts.f k a0 a1 a2 = some true) :
    Calls Tryd.prog 9 #[.int .i64 a0, .int .i64 a1, .bool a2] w fun e w' => e = .returned (.bool true) ∧ Below w.heap.size w w' := by
  have HB := Aside0.mk (Below.refl w.heap.size w)
  have H : ((billhooklaw01_examples.f).bind fun t234 => (if t234 = true then (if a2 = true then (billhooklaw01_WordShifts.j0 k a0 (Int.tmod a1 64) t234) else (billhooklaw01_WordShifts.j0 k a0 a1 t234)) else (some false))) = some true := h
  clear h
  replace H := Option.bind_eq_some_iff.mp H
  obtain ⟨t234, A40, H⟩ := H
  replace H : (if t234 = true then (if a2 = true then (billhooklaw01_WordShifts.j0 k a0 (Int.tmod a1 64) t234) else (billhooklaw01_WordShifts.j0 k a0 a1 t234)) else (some false)) = some true := H
  have A4 := Aside0.mk A40
  clear A40
  by_cases c5 : t234 = true
  · subst c5
    have H1 : (if a2 = true then (billhooklaw01_WordShifts.j0 k a0 (Int.tmod a1 64) true) else (billhooklaw01_WordShifts.j0 k a0 a1 true)) = some true := by rw [if_pos rfl] at H; exact H
    clear H
    have H := H1
    clear H1
    have HC6 := Aside0.mk H
    clear H
    go_enter Tryd.func9, Tryd.ntmps9
    go_upto_if 20 with (first | ((with_reducible refine gate_callee (f := 11) rfl ?_); refine goesL_ (some 17) rfl rfl Tryd.func11 (by kernel_rfl) rfl #[] rfl (by (try simp only [List.map_toArray, List.map_cons, List.map_nil]); first | done | rfl | (simp only [List.length_drop, List.length_take]; rfl)) ?_; (with_reducible refine (billhooklaw01_examples.calls  true _ ?side1 A4.out).mono ?_); (case side1 => exact GL.below hG (by repeat (first | (with_reducible first | exact HB.out | apply below_alloc | apply pw_below_drewN | apply below_drew1) | exact HB.out))); rintro e w7 ⟨rfl, hb⟩; refine ⟨_, rfl, ?_⟩; have n0_ := Aside0.mk (below_step (by repeat (first | (with_reducible first | exact HB.out | apply below_alloc | apply pw_below_drewN | apply below_drew1) | exact HB.out)) hb); clear HB; have HB := n0_; clear n0_; (try clear hb); (try clear hb2); (try clear hk); (try clear hi)))
    (try simp only [Act.put, List.setIfInBounds_toArray, List.set_cons_zero, List.set_cons_succ])
    go_cut [1] (fun v1 wc => ∃ (kq : Nat) (x1_5 : Int), v1 = .int .i64 x1_5 ∧ Aside0 (billhooklaw01_WordShifts.j0 kq a0 x1_5 true = some true) ∧ Aside0 (kq ≤ k) ∧ Aside0 (Below w.heap.size w wc))
    case first =>
      have H := HC6.out
      clear HC6
      by_cases c8 : a2 = true
      · subst c8
        have H1 : (billhooklaw01_WordShifts.j0 k a0 (Int.tmod a1 64) true) = some true := by rw [if_pos rfl] at H; exact H
        clear H
        have H := H1
        clear H1
        have H' := Aside0.mk H
        clear H
        go_wp2
        go_meet
        case rel => exact ⟨_, (Int.tmod a1 64), (by first | rfl | (simp; done) | (simp [*]; done)), H', ⟨by first | omega | exact Nat.le_refl _⟩, ⟨by repeat (first | (with_reducible first | exact HB.out | apply below_alloc | apply pw_below_drewN | apply below_drew1) | exact HB.out)⟩⟩
      · replace c8 := Bool.eq_false_iff.mpr c8
        subst c8
        have H1 : (billhooklaw01_WordShifts.j0 k a0 a1 true) = some true := by rw [if_neg (show ¬ (false = true) by decide)] at H; exact H
        clear H
        have H := H1
        clear H1
        have H' := Aside0.mk H
        clear H
        go_wp2
        go_meet
        case rel => exact ⟨_, (a1), (by first | rfl | (simp; done) | (simp [*]; done)), H', ⟨by first | omega | exact Nat.le_refl _⟩, ⟨by repeat (first | (with_reducible first | exact HB.out | apply below_alloc | apply pw_below_drewN | apply below_drew1) | exact HB.out)⟩⟩
    case rest =>
      clear HC6
      try clear c1
      try clear p2
      try clear c5
      try clear c8
      obtain ⟨kq, x1_5, rfl, HA, HJ5, HB⟩ := hcut
      cases kq with
      | zero => exact absurd HA.out (by simp [billhooklaw01_WordShifts.j0])
      | succ kj5 =>
        have H := HA.out
        clear HA
        simp only [billhooklaw01_WordShifts.j0] at H
        replace H := Option.bind_eq_some_iff.mp H
        obtain ⟨⟨t235, t236⟩, A90, H⟩ := H
        replace H : ((word_Binary.f (⟨#[62, 62]⟩ : ByteArray) a0 x1_5).bind fun bt237 => (if x1_5 < 0 then (billhooklaw01_WordShifts.j1 kj5 a0 x1_5 true t235 t236 bt237.1 bt237.2 true) else (billhooklaw01_WordShifts.j1 kj5 a0 x1_5 true t235 t236 bt237.1 bt237.2 (decide (x1_5 > 63))))) = some true := H
        have A9 := Aside0.mk A90
        clear A90
        replace H := Option.bind_eq_some_iff.mp H
        obtain ⟨⟨t237, t238⟩, A100, H⟩ := H
        replace H : (if x1_5 < 0 then (billhooklaw01_WordShifts.j1 kj5 a0 x1_5 true t235 t236 t237 t238 true) else (billhooklaw01_WordShifts.j1 kj5 a0 x1_5 true t235 t236 t237 t238 (decide (x1_5 > 63)))) = some true := H
        have A10 := Aside0.mk A100
        clear A100
        have HC11 := Aside0.mk H
        clear H
        go_upto_region 8 with (first | ((with_reducible refine gate_callee (f := 14) rfl ?_); refine goesL_ (some 26) rfl rfl Tryd.func14 (by kernel_rfl) rfl #[.string (⟨#[60, 60]⟩ : ByteArray), .int .i64 a0, .int .i64 x1_5] rfl (by (try simp only [List.map_toArray, List.map_cons, List.map_nil]); first | done | rfl | (simp only [List.length_drop, List.length_take]; rfl)) ?_; (with_reducible refine (word_Binary.calls (⟨#[60, 60]⟩ : ByteArray) a0 x1_5 t235 t236 _ A9.out).mono ?_); rintro e w12 ⟨rfl, hb⟩; refine ⟨_, rfl, ?_⟩; have n0_ := Aside0.mk (below_step (by repeat (first | (with_reducible first | exact HB.out | apply below_alloc | apply pw_below_drewN | apply below_drew1) | exact HB.out)) hb); clear HB; have HB := n0_; clear n0_; (try clear hb); (try clear hb2); (try clear hk); (try clear hi)) | ((with_reducible refine gate_callee (f := 14) rfl ?_); refine goesL_ (some 32) rfl rfl Tryd.func14 (by kernel_rfl) rfl #[.string (⟨#[62, 62]⟩ : ByteArray), .int .i64 a0, .int .i64 x1_5] rfl (by (try simp only [List.map_toArray, List.map_cons, List.map_nil]); first | done | rfl | (simp only [List.length_drop, List.length_take]; rfl)) ?_; (with_reducible refine (word_Binary.calls (⟨#[62, 62]⟩ : ByteArray) a0 x1_5 t237 t238 _ A10.out).mono ?_); rintro e w13 ⟨rfl, hb⟩; refine ⟨_, rfl, ?_⟩; have n0_ := Aside0.mk (below_step (by repeat (first | (with_reducible first | exact HB.out | apply below_alloc | apply pw_below_drewN | apply below_drew1) | exact HB.out)) hb); clear HB; have HB := n0_; clear n0_; (try clear hb); (try clear hb2); (try clear hk); (try clear hi)))
        (try simp only [Act.put, List.setIfInBounds_toArray, List.set_cons_zero, List.set_cons_succ])
        go_cut [40] (fun v40 wc => ∃ (kq : Nat) (x40_10 : Bool), v40 = .bool x40_10 ∧ Aside0 (billhooklaw01_WordShifts.j1 kq a0 x1_5 true t235 t236 t237 t238 x40_10 = some true) ∧ Aside0 (kq ≤ kj5) ∧ Aside0 (Below w.heap.size w wc))
        case first =>
          have H := HC11.out
          clear HC11
          by_cases c14 : x1_5 < 0
          · rw [if_pos c14] at H
            have c14b0 : decide (x1_5 < 0) = true := decide_eq_true c14
            clear c14
            (first | rw [c14b0] | (simp only [i64_w, i32_w]; rw [c14b0]) | skip)
            have H' := Aside0.mk H
            clear H
            go_wp2
            go_meet
            case rel => exact ⟨_, (true), (by first | rfl | (simp; done) | (simp [*]; done)), H', ⟨by have := HJ5.out; first | omega | exact Nat.le_refl _⟩, ⟨by repeat (first | (with_reducible first | exact HB.out | apply below_alloc | apply pw_below_drewN | apply below_drew1) | exact HB.out)⟩⟩
          · rw [if_neg c14] at H
            have c14b0 : decide (x1_5 < 0) = false := decide_eq_false c14
            clear c14
            (first | rw [c14b0] | (simp only [i64_w, i32_w]; rw [c14b0]) | skip)
            have H' := Aside0.mk H
            clear H
            go_wp2
            go_meet
            case rel => exact ⟨_, (decide (x1_5 > 63)), (by first | rfl | (simp; done) | (simp [*]; done)), H', ⟨by have := HJ5.out; first | omega | exact Nat.le_refl _⟩, ⟨by repeat (first | (with_reducible first | exact HB.out | apply below_alloc | apply pw_below_drewN | apply below_drew1) | exact HB.out)⟩⟩
        case rest =>
          clear HC11
          try clear c1
          try clear p2
          try clear c5
          try clear c8
          try clear c9
          try clear c11
          try clear c14
          try clear c14b0
          try clear p2
          obtain ⟨kq, x40_10, rfl, HA, HJ10, HB⟩ := hcut
          cases kq with
          | zero => exact absurd HA.out (by simp [billhooklaw01_WordShifts.j1])
          | succ kj10 =>
            have H := HA.out
            clear HA
            simp only [billhooklaw01_WordShifts.j1] at H
            by_cases c15 : x40_10 = true
            · subst c15
              have H1 : (if true = true then (if t236 = 2 then (if t238 = 2 then (if t235 = 0 then (some (t237 == 0)) else (some false)) else (some false)) else (some false)) else (some false)) = some true := by rw [if_pos rfl] at H; exact H
              clear H
              have H := H1
              clear H1
              (first | rw [if_pos (show (true : Bool) = true from rfl)] at H | rw [if_pos True.intro] at H)
              by_cases c16 : t236 = 2
              · rw [if_pos c16] at H
                have c16b0 : (t236 == 2) = true := beq_iff_eq.mpr c16
                have c16b1 : (t236 != 2) = false := bne_eq_false_iff_eq.mpr c16
                clear c16
                by_cases c17 : t238 = 2
                · rw [if_pos c17] at H
                  have c17b0 : (t238 == 2) = true := beq_iff_eq.mpr c17
                  have c17b1 : (t238 != 2) = false := bne_eq_false_iff_eq.mpr c17
                  clear c17
                  by_cases c18 : t235 = 0
                  · rw [if_pos c18] at H
                    have c18b0 : (t235 == 0) = true := beq_iff_eq.mpr c18
                    have c18b1 : (t235 != 0) = false := bne_eq_false_iff_eq.mpr c18
                    clear c18
                    have HTh := Aside0.mk (Option.some.inj H)
                    clear H
                    go_wp2
                    go_ret
                    exact ⟨by first | rfl | exact congrArg (fun b_ => Ending.returned (.bool b_)) HTh.out | (simp [HTh.out]; done) | (simp [errW_none, errW_some] <;> rfl) | (simp [*, errW_none, errW_some] <;> rfl), by repeat (first | (with_reducible first | exact HB.out | apply below_alloc | apply pw_below_drewN | apply below_drew1) | exact HB.out)⟩
                  · rw [if_neg c18] at H
                    have c18b0 : (t235 == 0) = false := beq_eq_false_iff_ne.mpr c18
                    have c18b1 : (t235 != 0) = true := bne_iff_ne.mpr c18
                    exact absurd H (by simp)
                · rw [if_neg c17] at H
                  have c17b0 : (t238 == 2) = false := beq_eq_false_iff_ne.mpr c17
                  have c17b1 : (t238 != 2) = true := bne_iff_ne.mpr c17
                  exact absurd H (by simp)
              · rw [if_neg c16] at H
                have c16b0 : (t236 == 2) = false := beq_eq_false_iff_ne.mpr c16
                have c16b1 : (t236 != 2) = true := bne_iff_ne.mpr c16
                exact absurd H (by simp)
            · replace c15 := Bool.eq_false_iff.mpr c15
              subst c15
              have H1 : ((word_Binary.f (⟨#[62, 62]⟩ : ByteArray) t235 x1_5).bind fun bt239 => ((word_Binary.f (⟨#[60, 60]⟩ : ByteArray) bt239.1 x1_5).bind fun bt241 => ((billhooklaw01_do.f (⟨#[62, 62]⟩ : ByteArray) t237 (wrap64 (63 - x1_5))).bind fun t243 => ((billhooklaw01_do.f (⟨#[62, 62]⟩ : ByteArray) a0 63).bind fun t244 => ((billhooklaw01_do.f (⟨#[61, 61]⟩ : ByteArray) t243 t244).bind fun t245 => (if true = true then (if t236 = 0 then (if t238 = 0 then (if bt239.2 = 0 then (if bt241.1 = t235 then (some (t245 == 1)) else (some false)) else (some false)) else (some false)) else (some false)) else (some false))))))) = some true := by rw [if_neg (show ¬ (false = true) by decide)] at H; exact H
              clear H
              have H := H1
              clear H1
              replace H := Option.bind_eq_some_iff.mp H
              obtain ⟨⟨t239, t240⟩, A190, H⟩ := H
              replace H : ((word_Binary.f (⟨#[60, 60]⟩ : ByteArray) t239 x1_5).bind fun bt241 => ((billhooklaw01_do.f (⟨#[62, 62]⟩ : ByteArray) t237 (wrap64 (63 - x1_5))).bind fun t243 => ((billhooklaw01_do.f (⟨#[62, 62]⟩ : ByteArray) a0 63).bind fun t244 => ((billhooklaw01_do.f (⟨#[61, 61]⟩ : ByteArray) t243 t244).bind fun t245 => (if true = true then (if t236 = 0 then (if t238 = 0 then (if t240 = 0 then (if bt241.1 = t235 then (some (t245 == 1)) else (some false)) else (some false)) else (some false)) else (some false)) else (some false)))))) = some true := H
              have A19 := Aside0.mk A190
              clear A190
              replace H := Option.bind_eq_some_iff.mp H
              obtain ⟨⟨t241, t242⟩, A200, H⟩ := H
              replace H : ((billhooklaw01_do.f (⟨#[62, 62]⟩ : ByteArray) t237 (wrap64 (63 - x1_5))).bind fun t243 => ((billhooklaw01_do.f (⟨#[62, 62]⟩ : ByteArray) a0 63).bind fun t244 => ((billhooklaw01_do.f (⟨#[61, 61]⟩ : ByteArray) t243 t244).bind fun t245 => (if true = true then (if t236 = 0 then (if t238 = 0 then (if t240 = 0 then (if t241 = t235 then (some (t245 == 1)) else (some false)) else (some false)) else (some false)) else (some false)) else (some false))))) = some true := H
              have A20 := Aside0.mk A200
              clear A200
              replace H := Option.bind_eq_some_iff.mp H
              obtain ⟨t243, A210, H⟩ := H
              replace H : ((billhooklaw01_do.f (⟨#[62, 62]⟩ : ByteArray) a0 63).bind fun t244 => ((billhooklaw01_do.f (⟨#[61, 61]⟩ : ByteArray) t243 t244).bind fun t245 => (if true = true then (if t236 = 0 then (if t238 = 0 then (if t240 = 0 then (if t241 = t235 then (some (t245 == 1)) else (some false)) else (some false)) else (some false)) else (some false)) else (some false)))) = some true := H
              have A21 := Aside0.mk A210
              clear A210
              replace H := Option.bind_eq_some_iff.mp H
              obtain ⟨t244, A220, H⟩ := H
              replace H : ((billhooklaw01_do.f (⟨#[61, 61]⟩ : ByteArray) t243 t244).bind fun t245 => (if true = true then (if t236 = 0 then (if t238 = 0 then (if t240 = 0 then (if t241 = t235 then (some (t245 == 1)) else (some false)) else (some false)) else (some false)) else (some false)) else (some false))) = some true := H
              have A22 := Aside0.mk A220
              clear A220
              replace H := Option.bind_eq_some_iff.mp H
              obtain ⟨t245, A230, H⟩ := H
              replace H : (if true = true then (if t236 = 0 then (if t238 = 0 then (if t240 = 0 then (if t241 = t235 then (some (t245 == 1)) else (some false)) else (some false)) else (some false)) else (some false)) else (some false)) = some true := H
              have A23 := Aside0.mk A230
              clear A230
              (first | rw [if_pos (show (true : Bool) = true from rfl)] at H | rw [if_pos True.intro] at H)
              by_cases c24 : t236 = 0
              · rw [if_pos c24] at H
                have c24b0 : (t236 == 0) = true := beq_iff_eq.mpr c24
                have c24b1 : (t236 != 0) = false := bne_eq_false_iff_eq.mpr c24
                clear c24
                by_cases c25 : t238 = 0
                · rw [if_pos c25] at H
                  have c25b0 : (t238 == 0) = true := beq_iff_eq.mpr c25
                  have c25b1 : (t238 != 0) = false := bne_eq_false_iff_eq.mpr c25
                  clear c25
                  by_cases c26 : t240 = 0
                  · rw [if_pos c26] at H
                    have c26b0 : (t240 == 0) = true := beq_iff_eq.mpr c26
                    have c26b1 : (t240 != 0) = false := bne_eq_false_iff_eq.mpr c26
                    clear c26
                    by_cases c27 : t241 = t235
                    · rw [if_pos c27] at H
                      have c27b0 : (t241 == t235) = true := beq_iff_eq.mpr c27
                      have c27b1 : (t241 != t235) = false := bne_eq_false_iff_eq.mpr c27
                      clear c27
                      have HTh := Aside0.mk (Option.some.inj H)
                      clear H
                      go_wp2_with (first | ((with_reducible refine gate_callee (f := 14) rfl ?_); refine goesL_ (some 61) rfl rfl Tryd.func14 (by kernel_rfl) rfl #[.string (⟨#[62, 62]⟩ : ByteArray), .int .i64 t235, .int .i64 x1_5] rfl (by (try simp only [List.map_toArray, List.map_cons, List.map_nil]); first | done | rfl | (simp only [List.length_drop, List.length_take]; rfl)) ?_; (with_reducible refine (word_Binary.calls (⟨#[62, 62]⟩ : ByteArray) t235 x1_5 t239 t240 _ A19.out).mono ?_); rintro e w28 ⟨rfl, hb⟩; refine ⟨_, rfl, ?_⟩; have n0_ := Aside0.mk (below_step (by repeat (first | (with_reducible first | exact HB.out | apply below_alloc | apply pw_below_drewN | apply below_drew1) | exact HB.out)) hb); clear HB; have HB := n0_; clear n0_; (try clear hb); (try clear hb2); (try clear hk); (try clear hi)) | ((with_reducible refine gate_callee (f := 14) rfl ?_); refine goesL_ (some 67) rfl rfl Tryd.func14 (by kernel_rfl) rfl #[.string (⟨#[60, 60]⟩ : ByteArray), .int .i64 t239, .int .i64 x1_5] rfl (by (try simp only [List.map_toArray, List.map_cons, List.map_nil]); first | done | rfl | (simp only [List.length_drop, List.length_take]; rfl)) ?_; (with_reducible refine (word_Binary.calls (⟨#[60, 60]⟩ : ByteArray) t239 x1_5 t241 t242 _ A20.out).mono ?_); rintro e w29 ⟨rfl, hb⟩; refine ⟨_, rfl, ?_⟩; have n0_ := Aside0.mk (below_step (by repeat (first | (with_reducible first | exact HB.out | apply below_alloc | apply pw_below_drewN | apply below_drew1) | exact HB.out)) hb); clear HB; have HB := n0_; clear n0_; (try clear hb); (try clear hb2); (try clear hk); (try clear hi)) | ((with_reducible refine gate_callee (f := 24) rfl ?_); refine goesL_ (some 73) rfl rfl Tryd.func24 (by kernel_rfl) rfl #[.string (⟨#[62, 62]⟩ : ByteArray), .int .i64 t237, .int .i64 (wrap64 (63 - x1_5))] rfl (by (try simp only [List.map_toArray, List.map_cons, List.map_nil]); first | done | rfl | (simp only [List.length_drop, List.length_take]; rfl)) ?_; (with_reducible refine (billhooklaw01_do.calls (⟨#[62, 62]⟩ : ByteArray) t237 (wrap64 (63 - x1_5)) t243 _ A21.out).mono ?_); rintro e w30 ⟨rfl, hb⟩; refine ⟨_, rfl, ?_⟩; have n0_ := Aside0.mk (below_step (by repeat (first | (with_reducible first | exact HB.out | apply below_alloc | apply pw_below_drewN | apply below_drew1) | exact HB.out)) hb); clear HB; have HB := n0_; clear n0_; (try clear hb); (try clear hb2); (try clear hk); (try clear hi)) | ((with_reducible refine gate_callee (f := 24) rfl ?_); refine goesL_ (some 75) rfl rfl Tryd.func24 (by kernel_rfl) rfl #[.string (⟨#[62, 62]⟩ : ByteArray), .int .i64 a0, .int .i64 63] rfl (by (try simp only [List.map_toArray, List.map_cons, List.map_nil]); first | done | rfl | (simp only [List.length_drop, List.length_take]; rfl)) ?_; (with_reducible refine (billhooklaw01_do.calls (⟨#[62, 62]⟩ : ByteArray) a0 63 t244 _ A22.out).mono ?_); rintro e w31 ⟨rfl, hb⟩; refine ⟨_, rfl, ?_⟩; have n0_ := Aside0.mk (below_step (by repeat (first | (with_reducible first | exact HB.out | apply below_alloc | apply pw_below_drewN | apply below_drew1) | exact HB.out)) hb); clear HB; have HB := n0_; clear n0_; (try clear hb); (try clear hb2); (try clear hk); (try clear hi)) | ((with_reducible refine gate_callee (f := 24) rfl ?_); refine goesL_ (some 76) rfl rfl Tryd.func24 (by kernel_rfl) rfl #[.string (⟨#[61, 61]⟩ : ByteArray), .int .i64 t243, .int .i64 t244] rfl (by (try simp only [List.map_toArray, List.map_cons, List.map_nil]); first | done | rfl | (simp only [List.length_drop, List.length_take]; rfl)) ?_; (with_reducible refine (billhooklaw01_do.calls (⟨#[61, 61]⟩ : ByteArray) t243 t244 t245 _ A23.out).mono ?_); rintro e w32 ⟨rfl, hb⟩; refine ⟨_, rfl, ?_⟩; have n0_ := Aside0.mk (below_step (by repeat (first | (with_reducible first | exact HB.out | apply below_alloc | apply pw_below_drewN | apply below_drew1) | exact HB.out)) hb); clear HB; have HB := n0_; clear n0_; (try clear hb); (try clear hb2); (try clear hk); (try clear hi)))
                      go_ret
                      exact ⟨by first | rfl | exact congrArg (fun b_ => Ending.returned (.bool b_)) HTh.out | (simp [HTh.out]; done) | (simp [errW_none, errW_some] <;> rfl) | (simp [*, errW_none, errW_some] <;> rfl), by repeat (first | (with_reducible first | exact HB.out | apply below_alloc | apply pw_below_drewN | apply below_drew1) | exact HB.out)⟩
                    · rw [if_neg c27] at H
                      have c27b0 : (t241 == t235) = false := beq_eq_false_iff_ne.mpr c27
                      have c27b1 : (t241 != t235) = true := bne_iff_ne.mpr c27
                      exact absurd H (by simp)
                  · rw [if_neg c26] at H
                    have c26b0 : (t240 == 0) = false := beq_eq_false_iff_ne.mpr c26
                    have c26b1 : (t240 != 0) = true := bne_iff_ne.mpr c26
                    exact absurd H (by simp)
                · rw [if_neg c25] at H
                  have c25b0 : (t238 == 0) = false := beq_eq_false_iff_ne.mpr c25
                  have c25b1 : (t238 != 0) = true := bne_iff_ne.mpr c25
                  exact absurd H (by simp)
              · rw [if_neg c24] at H
                have c24b0 : (t236 == 0) = false := beq_eq_false_iff_ne.mpr c24
                have c24b1 : (t236 != 0) = true := bne_iff_ne.mpr c24
                exact absurd H (by simp)
  · replace c5 := Bool.eq_false_iff.mpr c5
    subst c5
    have H1 : (some false) = some true := by rw [if_neg (show ¬ (false = true) by decide)] at H; exact H
    clear H
    have H := H1
    clear H1
    exact absurd H (by simp)

/-- THE ONE PURE STATEMENT of billhooklaw01_WordShifts: yours. -/
def billhooklaw01_WordShifts.Pure : Prop := ∀ (a0 : Int) (a1 : Int) (a2 : Bool), (Lit.int .i64 a0).wf = true → (Lit.int .i64 a1).wf = true → ∃ k, billhooklaw01_WordShifts.f k a0 a1 a2 = some true
theorem billhooklaw01_WordShifts.walk (P : billhooklaw01_WordShifts.Pure) (a0 : Int) (a1 : Int) (a2 : Bool) (w : World) (hG : GL w) (w0 : (Lit.int .i64 a0).wf = true) (w1 : (Lit.int .i64 a1).wf = true) :
    Calls Tryd.prog 9 #[.int .i64 a0, .int .i64 a1, .bool a2] w fun e w' => e = .returned (.bool true) ∧ Below w.heap.size w w' := by
  obtain ⟨k, h⟩ := P a0 a1 a2 w0 w1
  refine (billhooklaw01_WordShifts.calls k a0 a1 a2 w hG h).mono ?_
  rintro e w' ⟨rfl, hd⟩
  exact ⟨rfl, hd⟩

end Go.Proofs.YtlkabncoaijepaaDoor.PAll
