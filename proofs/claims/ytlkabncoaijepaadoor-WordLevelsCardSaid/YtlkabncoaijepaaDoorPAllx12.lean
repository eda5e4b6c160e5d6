-- PRINTED by print.py (a twelfth state) out of the translation. Not trusted: Lean checks it.
import Derived.Test.YtlkabncoaijepaaDoorPAllx0
import Derived.Test.YtlkabncoaijepaaDoorExtEx
namespace Go.Proofs.YtlkabncoaijepaaDoor.PAll
open Go.RowKit Go.Proofs.YtlkabncoaijepaaDoorW.PrintWords Go.Proofs.YtlkabncoaijepaaDoorW.PrintLast Go.Proofs.YtlkabncoaijepaaDoorW.PrintMore
attribute [local go_sem] max2_int min2_int max_two min_two max_three min_three max_four min_four   -- for this text's walks alone
set_option linter.unusedVariables false
set_option linter.unusedSimpArgs false

open Go.Proofs.YtlkabncoaijepaaDoor.X
/-! ### billhooklaw01_WordLevels: function 10 -/
def billhooklaw01_WordLevels.l0 : Nat → ByteArray → Bool → List ByteArray → Int → Bool → Int → Option (Bool)
  | 0, _, _, _, _, _, _ => none
  | k + 1, x0, x3, x4, x5, x6, x7 => if x7 < (x4.length : Int) then (if 0 ≤ x7 then ((word_Level.f (rdOf ByteArray.empty x4 x7)).bind fun t251 => (if t251 < x5 then (some false) else (if t251 > 10 then (some false) else (if x6 = true then (billhooklaw01_WordLevels.l0 k x0 x3 x4 t251 true (wrap64 (x7 + 1))) else (billhooklaw01_WordLevels.l0 k x0 x3 x4 t251 ((rdOf ByteArray.empty x4 x7).toList == x0.toList) (wrap64 (x7 + 1))))))) else (none)) else (if x3 = true then (if x5 = 10 then ((word_Level.f x0).bind fun t253 => (some ((decide (t253 > 0)) == x6))) else (some false)) else (some false))
def billhooklaw01_WordLevels.f (k : Nat) (a0 : ByteArray) : Option (Bool) := (billhooklaw01_examples.f).bind fun t246 => (if t246 = true then ((word_Ops.f).bind fun t247 => (billhooklaw01_WordLevels.l0 k a0 t246 t247 1 false 0)) else (some false))
theorem billhooklaw01_WordLevels.mono_l : ∀ k, (∀ y0 y1 y2 y3 y4 y5, LeO (billhooklaw01_WordLevels.l0 k y0 y1 y2 y3 y4 y5) (billhooklaw01_WordLevels.l0 (k + 1) y0 y1 y2 y3 y4 y5))
  | 0 => fun _ _ _ _ _ _ r h => by simp [billhooklaw01_WordLevels.l0] at h
  | k + 1 => by
    have ih0 := billhooklaw01_WordLevels.mono_l k
    · intro y0 y1 y2 y3 y4 y5
      unfold billhooklaw01_WordLevels.l0
      repeat' first
      | (with_reducible exact ih0 _ _ _ _ _ _)
      | (with_reducible exact LeO.refl _)
      | (with_reducible exact LeO.none _)
      | (with_reducible refine LeO.ite ?_ ?_)
      | (with_reducible refine LeO.bind ?_ (fun _ => ?_))
      | exact ih0 _ _ _ _ _ _
      | exact LeO.none _
      | refine LeO.ite ?_ ?_
      | refine LeO.bind ?_ (fun _ => ?_)
theorem billhooklaw01_WordLevels.mono : ∀ a0 k, LeO (billhooklaw01_WordLevels.f k a0) (billhooklaw01_WordLevels.f (k + 1) a0) := by
  intro a0 k
  have ih0 := billhooklaw01_WordLevels.mono_l k
  unfold billhooklaw01_WordLevels.f
  repeat' first
      | (with_reducible exact ih0 _ _ _ _ _ _)
      | (with_reducible exact LeO.refl _)
      | (with_reducible exact LeO.none _)
      | (with_reducible refine LeO.ite ?_ ?_)
      | (with_reducible refine LeO.bind ?_ (fun _ => ?_))
      | exact ih0 _ _ _ _ _ _
      | exact LeO.none _
      | refine LeO.ite ?_ ?_
      | refine LeO.bind ?_ (fun _ => ?_)
set_option maxHeartbeats 8000000 in
set_option maxRecDepth 100000 in
theorem billhooklaw01_WordLevels.calls (k : Nat) (a0 : ByteArray) (w : World) (hG : GL w) (h : billhooklaw01_WordLevels.f k a0 = some true) :
    Calls Tryd.prog 10 #[.string a0] w fun e w' => e = .returned (.bool true) ∧ Below w.heap.size w w' := by
  have HB := Aside0.mk (Below.refl w.heap.size w)
  have H : ((billhooklaw01_examples.f).bind fun t246 => (if t246 = true then ((word_Ops.f).bind fun t247 => (billhooklaw01_WordLevels.l0 k a0 t246 t247 1 false 0)) else (some false))) = some true := h
  clear h
  replace H := Option.bind_eq_some_iff.mp H
  obtain ⟨t246, A20, H⟩ := H
  replace H : (if t246 = true then ((word_Ops.f).bind fun t247 => (billhooklaw01_WordLevels.l0 k a0 t246 t247 1 false 0)) else (some false)) = some true := H
  have A2 := Aside0.mk A20
  clear A20
  by_cases c3 : t246 = true
  · subst c3
    have H1 : ((word_Ops.f).bind fun t247 => (billhooklaw01_WordLevels.l0 k a0 true t247 1 false 0)) = some true := by rw [if_pos rfl] at H; exact H
    clear H
    have H := H1
    clear H1
    replace H := Option.bind_eq_some_iff.mp H
    obtain ⟨t247, A40, H⟩ := H
    replace H : (billhooklaw01_WordLevels.l0 k a0 true t247 1 false 0) = some true := H
    have A4 := Aside0.mk A40
    clear A40
    have H' := Aside0.mk H
    clear H
    go_enter Tryd.func10, Tryd.ntmps10
    go_wp2_with (first | ((with_reducible refine gate_callee (f := 11) rfl ?_); refine goesL_ (some 9) rfl rfl Tryd.func11 (by kernel_rfl) rfl #[] rfl (by (try simp only [List.map_toArray, List.map_cons, List.map_nil]); first | done | rfl | (simp only [List.length_drop, List.length_take]; rfl)) ?_; (with_reducible refine (billhooklaw01_examples.calls  true _ ?side1 A2.out).mono ?_); (case side1 => exact GL.below hG (by repeat (first | (with_reducible first | exact HB.out | apply below_alloc | apply pw_below_drewN | apply below_drew1) | exact HB.out))); rintro e w5 ⟨rfl, hb⟩; refine ⟨_, rfl, ?_⟩; have n0_ := Aside0.mk (below_step (by repeat (first | (with_reducible first | exact HB.out | apply below_alloc | apply pw_below_drewN | apply below_drew1) | exact HB.out)) hb); clear HB; have HB := n0_; clear n0_; (try clear hb); (try clear hb2); (try clear hk); (try clear hi)) | ((with_reducible refine gate_callee (f := 18) rfl ?_); refine goesL_ (some 12) rfl rfl Tryd.func18 (by kernel_rfl) rfl #[] rfl (by (try simp only [List.map_toArray, List.map_cons, List.map_nil]); first | done | rfl | (simp only [List.length_drop, List.length_take]; rfl)) ?_; (with_reducible refine (word_Ops.calls  t247 _ A4.out).mono ?_); rintro e w6 ⟨v248, rfl, ho0, hb⟩; refine ⟨_, rfl, ?_⟩; have n0_ := Aside0.mk (Kd.R_lower ho0 (below_size (by repeat (first | (with_reducible first | exact HB.out | apply below_alloc | apply pw_below_drewN | apply below_drew1) | exact HB.out)))); have n1_ := Aside0.mk (below_step (by repeat (first | (with_reducible first | exact HB.out | apply below_alloc | apply pw_below_drewN | apply below_drew1) | exact HB.out)) hb); clear HB; have HO249 := n0_; have HB := n1_; clear n0_ n1_; (try clear hb); (try clear hb2); (try clear hk); (try clear hi); (try clear ho0)))
    go_loopg [5, 6, 7] k (fun kq v5 v6 v7 w' => ∃ (x5_1 : Int) (x6_1 : Bool) (x7_1 : Int), v5 = .int .i64 x5_1 ∧ v6 = .bool x6_1 ∧ v7 = .int .i64 x7_1 ∧ Aside0 (billhooklaw01_WordLevels.l0 kq a0 true t247 x5_1 x6_1 x7_1 = some true) ∧ Aside0 (kq ≤ k) ∧ Aside0 (Kd.R Kd.string 9 w' w.heap.size (fun _ => True) v248 t247) ∧ Aside0 (Below w.heap.size w w'))
    case atStart => exact ⟨(1), (false), (0), (by first | rfl | (simp; done) | (simp [*]; done)), (by first | rfl | (simp; done) | (simp [*]; done)), (by first | rfl | (simp; done) | (simp [*]; done)), H', ⟨Nat.le_refl _⟩, ⟨by (with_reducible repeat (first | apply Kd.R_alloc | apply Kd.R_drewN | apply Kd.R_drew)); exact HO249.out⟩, ⟨by repeat (first | (with_reducible first | exact HB.out | apply below_alloc | apply pw_below_drewN | apply below_drew1) | exact HB.out)⟩⟩
    case round =>
      clear H'
      try clear c1
      try clear p2
      try clear c3
      obtain ⟨x5_1, x6_1, x7_1, rfl, rfl, rfl, HA, HK1, HO_4, HB⟩ := hrel
      cases gk with
      | zero => exact absurd HA.out (by simp [billhooklaw01_WordLevels.l0])
      | succ k1 =>
        have H := HA.out
        clear HA
        simp only [billhooklaw01_WordLevels.l0] at H
        by_cases c7 : x7_1 < (t247.length : Int)
        · rw [if_pos c7] at H
          have c7b0 : decide (x7_1 < (t247.length : Int)) = true := decide_eq_true c7
          clear c7
          by_cases c8 : 0 ≤ x7_1
          · rw [if_pos c8] at H
            have c8b0 : decide (0 ≤ x7_1) = true := decide_eq_true c8
            clear c8
            replace H := Option.bind_eq_some_iff.mp H
            obtain ⟨t251, A90, H⟩ := H
            replace H : (if t251 < x5_1 then (some false) else (if t251 > 10 then (some false) else (if x6_1 = true then (billhooklaw01_WordLevels.l0 k1 a0 true t247 t251 true (wrap64 (x7_1 + 1))) else (billhooklaw01_WordLevels.l0 k1 a0 true t247 t251 ((rdOf ByteArray.empty t247 x7_1).toList == a0.toList) (wrap64 (x7_1 + 1)))))) = some true := H
            have A9 := Aside0.mk A90
            clear A90
            by_cases c10 : t251 < x5_1
            · rw [if_pos c10] at H
              have c10b0 : decide (t251 < x5_1) = true := decide_eq_true c10
              clear c10
              exact absurd H (by simp)
            · rw [if_neg c10] at H
              have c10b0 : decide (t251 < x5_1) = false := decide_eq_false c10
              clear c10
              by_cases c11 : t251 > 10
              · rw [if_pos c11] at H
                have c11b0 : decide (10 < t251) = true := decide_eq_true c11
                clear c11
                exact absurd H (by simp)
              · rw [if_neg c11] at H
                have c11b0 : decide (10 < t251) = false := decide_eq_false c11
                clear c11
                by_cases c12 : x6_1 = true
                · subst c12
                  have H1 : (billhooklaw01_WordLevels.l0 k1 a0 true t247 t251 true (wrap64 (x7_1 + 1))) = some true := by rw [if_pos rfl] at H; exact H
                  clear H
                  have H := H1
                  clear H1
                  have H' := Aside0.mk H
                  clear H
                  obtain ⟨Ao13, co13, eo13⟩ := Kd.R_slice HO_4.out
                  subst eo13
                  have p250 : 0 ≤ (x7_1 : Int) := of_decide_eq_true (by first | (with_reducible assumption) | assumption)
                  have q250 : x7_1 < (t247.length : Int) := of_decide_eq_true (by first | (with_reducible assumption) | assumption)
                  obtain ⟨ad250, e250, hx250_0⟩ := Kd.at_string (Kd.R_reads' HO_4.out).2.2 x7_1 p250 q250
                  cases e250
                  replace p250 := eq_true p250
                  replace q250 := eq_true q250
                  go_wp2_with (first | ((with_reducible refine gate_callee (f := 20) rfl ?_); refine goesL_ (some 23) rfl rfl Tryd.func20 (by kernel_rfl) rfl #[.string (rdOf ByteArray.empty t247 x7_1)] rfl (by (try simp only [List.map_toArray, List.map_cons, List.map_nil]); first | done | rfl | (simp only [List.length_drop, List.length_take]; rfl)) ?_; (with_reducible refine (word_Level.calls (rdOf ByteArray.empty t247 x7_1) t251 _ A9.out).mono ?_); rintro e w14 ⟨rfl, hb⟩; refine ⟨_, rfl, ?_⟩; have n0_ := Aside0.mk (Kd.R_below (by (with_reducible repeat (first | apply Kd.R_alloc | apply Kd.R_drewN | apply Kd.R_drew)); exact HO_4.out) hb); have n1_ := Aside0.mk (below_step (by repeat (first | (with_reducible first | exact HB.out | apply below_alloc | apply pw_below_drewN | apply below_drew1) | exact HB.out)) hb); clear HO_4; clear HB; have HO_4 := n0_; have HB := n1_; clear n0_ n1_; (try clear hb); (try clear hb2); (try clear hk); (try clear hi)))
                  go_roundg k1
                  case measure => have := HK1.out; omega
                  case rel => exact ⟨(t251), (true), (wrap64 (x7_1 + 1)), (by first | rfl | (simp; done) | (simp [*]; done)), (by first | rfl | (simp; done) | (simp [*]; done)), (by first | rfl | (simp; done) | (simp [*]; done)), H', ⟨by have := HK1.out; omega⟩, ⟨by (with_reducible repeat (first | apply Kd.R_alloc | apply Kd.R_drewN | apply Kd.R_drew)); exact HO_4.out⟩, ⟨by repeat (first | (with_reducible first | exact HB.out | apply below_alloc | apply pw_below_drewN | apply below_drew1) | exact HB.out)⟩⟩
                · replace c12 := Bool.eq_false_iff.mpr c12
                  subst c12
                  have H1 : (billhooklaw01_WordLevels.l0 k1 a0 true t247 t251 ((rdOf ByteArray.empty t247 x7_1).toList == a0.toList) (wrap64 (x7_1 + 1))) = some true := by rw [if_neg (show ¬ (false = true) by decide)] at H; exact H
                  clear H
                  have H := H1
                  clear H1
                  have H' := Aside0.mk H
                  clear H
                  obtain ⟨Ao15, co15, eo15⟩ := Kd.R_slice HO_4.out
                  subst eo15
                  have p250 : 0 ≤ (x7_1 : Int) := of_decide_eq_true (by first | (with_reducible assumption) | assumption)
                  have q250 : x7_1 < (t247.length : Int) := of_decide_eq_true (by first | (with_reducible assumption) | assumption)
                  obtain ⟨ad250, e250, hx250_0⟩ := Kd.at_string (Kd.R_reads' HO_4.out).2.2 x7_1 p250 q250
                  cases e250
                  replace p250 := eq_true p250
                  replace q250 := eq_true q250
                  go_wp2_with (first | ((with_reducible refine gate_callee (f := 20) rfl ?_); refine goesL_ (some 23) rfl rfl Tryd.func20 (by kernel_rfl) rfl #[.string (rdOf ByteArray.empty t247 x7_1)] rfl (by (try simp only [List.map_toArray, List.map_cons, List.map_nil]); first | done | rfl | (simp only [List.length_drop, List.length_take]; rfl)) ?_; (with_reducible refine (word_Level.calls (rdOf ByteArray.empty t247 x7_1) t251 _ A9.out).mono ?_); rintro e w16 ⟨rfl, hb⟩; refine ⟨_, rfl, ?_⟩; have n0_ := Aside0.mk (Kd.R_below (by (with_reducible repeat (first | apply Kd.R_alloc | apply Kd.R_drewN | apply Kd.R_drew)); exact HO_4.out) hb); have n1_ := Aside0.mk (below_step (by repeat (first | (with_reducible first | exact HB.out | apply below_alloc | apply pw_below_drewN | apply below_drew1) | exact HB.out)) hb); clear HO_4; clear HB; have HO_4 := n0_; have HB := n1_; clear n0_ n1_; (try clear hb); (try clear hb2); (try clear hk); (try clear hi); have p252 : 0 ≤ (x7_1 : Int) := of_decide_eq_true (by first | (with_reducible assumption) | assumption); have q252 : x7_1 < (t247.length : Int) := of_decide_eq_true (by first | (with_reducible assumption) | assumption); obtain ⟨ad252, e252, hx252_0⟩ := Kd.at_string (Kd.R_reads' HO_4.out).2.2 x7_1 p252 q252; obtain rfl : ad250 = ad252 := (by injection e252); replace p252 := eq_true p252; replace q252 := eq_true q252))
                  go_roundg k1
                  case measure => have := HK1.out; omega
                  case rel => exact ⟨(t251), (((rdOf ByteArray.empty t247 x7_1).toList == a0.toList)), (wrap64 (x7_1 + 1)), (by first | rfl | (simp; done) | (simp [*]; done)), (by first | rfl | (simp; done) | (simp [*]; done)), (by first | rfl | (simp; done) | (simp [*]; done)), H', ⟨by have := HK1.out; omega⟩, ⟨by (with_reducible repeat (first | apply Kd.R_alloc | apply Kd.R_drewN | apply Kd.R_drew)); exact HO_4.out⟩, ⟨by repeat (first | (with_reducible first | exact HB.out | apply below_alloc | apply pw_below_drewN | apply below_drew1) | exact HB.out)⟩⟩
          · rw [if_neg c8] at H
            exact absurd H (by simp)
        · rw [if_neg c7] at H
          have c7b0 : decide (x7_1 < (t247.length : Int)) = false := decide_eq_false c7
          clear c7
          (first | rw [if_pos (show (true : Bool) = true from rfl)] at H | rw [if_pos True.intro] at H)
          by_cases c17 : x5_1 = 10
          · rw [if_pos c17] at H
            have c17b0 : (x5_1 == 10) = true := beq_iff_eq.mpr c17
            have c17b1 : (x5_1 != 10) = false := bne_eq_false_iff_eq.mpr c17
            clear c17
            replace H := Option.bind_eq_some_iff.mp H
            obtain ⟨t253, A180, H⟩ := H
            replace H : (some ((decide (t253 > 0)) == x6_1)) = some true := H
            have A18 := Aside0.mk A180
            clear A180
            have HTh := Aside0.mk (Option.some.inj H)
            clear H
            obtain ⟨Ao19, co19, eo19⟩ := Kd.R_slice HO_4.out
            subst eo19
            go_wp2_with (first | (go_at_call 20; (with_reducible refine (word_Level.calls a0 t253 _ A18.out).mono ?_); rintro e w20 ⟨rfl, hb⟩; have n0_ := Aside0.mk (Kd.R_below (by (with_reducible repeat (first | apply Kd.R_alloc | apply Kd.R_drewN | apply Kd.R_drew)); exact HO_4.out) hb); have n1_ := Aside0.mk (below_step (by repeat (first | (with_reducible first | exact HB.out | apply below_alloc | apply pw_below_drewN | apply below_drew1) | exact HB.out)) hb); clear HO_4; clear HB; have HO_4 := n0_; have HB := n1_; clear n0_ n1_; (try clear hb); (try clear hb2); (try clear hk); (try clear hi)))
            go_ret
            exact ⟨by first | rfl | exact congrArg (fun b_ => Ending.returned (.bool b_)) HTh.out | (simp [HTh.out]; done) | (simp [errW_none, errW_some] <;> rfl) | (simp [*, errW_none, errW_some] <;> rfl), by repeat (first | (with_reducible first | exact HB.out | apply below_alloc | apply pw_below_drewN | apply below_drew1) | exact HB.out)⟩
          · rw [if_neg c17] at H
            have c17b0 : (x5_1 == 10) = false := beq_eq_false_iff_ne.mpr c17
            have c17b1 : (x5_1 != 10) = true := bne_iff_ne.mpr c17
            exact absurd H (by simp)
  · replace c3 := Bool.eq_false_iff.mpr c3
    subst c3
    have H1 : (some false) = some true := by rw [if_neg (show ¬ (false = true) by decide)] at H; exact H
    clear H
    have H := H1
    clear H1
    exact absurd H (by simp)

/-- THE ONE PURE STATEMENT of billhooklaw01_WordLevels: yours. -/
def billhooklaw01_WordLevels.Pure : Prop := ∀ (a0 : ByteArray), a0.size ≤ 140737488351232 → ∃ k, billhooklaw01_WordLevels.f k a0 = some true
theorem billhooklaw01_WordLevels.walk (P : billhooklaw01_WordLevels.Pure) (a0 : ByteArray) (w : World) (hG : GL w) (w0 : a0.size ≤ 140737488351232) :
    Calls Tryd.prog 10 #[.string a0] w fun e w' => e = .returned (.bool true) ∧ Below w.heap.size w w' := by
  obtain ⟨k, h⟩ := P a0 w0
  refine (billhooklaw01_WordLevels.calls k a0 w hG h).mono ?_
  rintro e w' ⟨rfl, hd⟩
  exact ⟨rfl, hd⟩

end Go.Proofs.YtlkabncoaijepaaDoor.PAll
