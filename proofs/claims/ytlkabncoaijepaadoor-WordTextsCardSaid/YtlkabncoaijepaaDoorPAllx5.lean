-- PRINTED by print.py (a twelfth state) out of the translation. Not trusted: Lean checks it.
import Derived.Test.YtlkabncoaijepaaDoorPAllx0
import Derived.Test.YtlkabncoaijepaaDoorPAllx1
import Derived.Test.YtlkabncoaijepaaDoorPAllx2
import Derived.Test.YtlkabncoaijepaaDoorPAllx3
import Derived.Test.YtlkabncoaijepaaDoorPAllx4
import Derived.Test.YtlkabncoaijepaaDoorExtEx
namespace Go.Proofs.YtlkabncoaijepaaDoor.PAll
open Go.RowKit Go.Proofs.YtlkabncoaijepaaDoorW.PrintWords Go.Proofs.YtlkabncoaijepaaDoorW.PrintLast Go.Proofs.YtlkabncoaijepaaDoorW.PrintMore
attribute [local go_sem] max2_int min2_int max_two min_two max_three min_three max_four min_four   -- for this text's walks alone
set_option linter.unusedVariables false
set_option linter.unusedSimpArgs false

open Go.Proofs.YtlkabncoaijepaaDoor.X
/-! ### billhooklaw01_WordTells: function 3 -/
def billhooklaw01_WordTells.l0 : Nat → Int → Bool → ByteArray → Int → Int → Int → Int → Int → Bool → Int → Bool → List ByteArray → List ByteArray → Int → Option (Bool)
  | 0, _, _, _, _, _, _, _, _, _, _, _, _, _, _ => none
  | k + 1, x2, x13, x14, x15, x16, x17, x18, x19, x20, x21, x22, x23, x24, x25 => if x25 < (x23.length : Int) then (if 0 ≤ x25 then (if x25 < (x24.length : Int) then (if (rdOf ByteArray.empty x23 x25).toList = (rdOf ByteArray.empty x24 x25).toList then (billhooklaw01_WordTells.l0 k x2 x13 x14 x15 x16 x17 x18 x19 x20 x21 x22 x23 x24 (wrap64 (x25 + 1))) else (some false)) else (none)) else (none)) else (if x13 = true then (if x15 = x17 then (if x16 = x18 then (if x19 = x21 then (if (x20 == x22) = true then ((word_Level.f x14).bind fun t159 => ((billhookref01_Level.f k x14).bind fun t160 => (if t159 = t160 then ((word_Text.f x2).bind fun t161 => ((billhookref01_Text.f k x2).bind fun t162 => (some (t161.toList == t162.toList)))) else (some false)))) else (some false)) else (some false)) else (some false)) else (some false)) else (some false))
def billhooklaw01_WordTells.f (k : Nat) (a0 : ByteArray) (a1 : Int) (a2 : Int) (a3 : Int) (a4 : Int) (a5 : Int) : Option (Bool) := (billhooklaw01_examples.f).bind fun t139 => (if t139 = true then ((billhooklaw01_op.f a0 a1).bind fun t140 => ((billhooklaw01_near.f a2 a4).bind fun t141 => ((billhooklaw01_near.f a3 a5).bind fun t142 => ((word_Binary.f t140 t141 t142).bind fun bt143 => ((billhookref01_Binary.f k t140 t141 t142).bind fun bt145 => ((word_Unary.f t140 t141).bind fun bt147 => ((billhookref01_Unary.f t140 t141).bind fun bt149 => ((word_Ops.f).bind fun t151 => ((billhookref01_Ops.f).bind fun t154 => (if (t151.length : Int) = (t154.length : Int) then (billhooklaw01_WordTells.l0 k t141 t139 t140 bt143.1 bt143.2 bt145.1 bt145.2 bt147.1 bt147.2 bt149.1 bt149.2 t151 t154 0) else (some false))))))))))) else (some false))
theorem billhooklaw01_WordTells.mono_l : ∀ k, (∀ y0 y1 y2 y3 y4 y5 y6 y7 y8 y9 y10 y11 y12 y13, LeO (billhooklaw01_WordTells.l0 k y0 y1 y2 y3 y4 y5 y6 y7 y8 y9 y10 y11 y12 y13) (billhooklaw01_WordTells.l0 (k + 1) y0 y1 y2 y3 y4 y5 y6 y7 y8 y9 y10 y11 y12 y13))
  | 0 => fun _ _ _ _ _ _ _ _ _ _ _ _ _ _ r h => by simp [billhooklaw01_WordTells.l0] at h
  | k + 1 => by
    have ih0 := billhooklaw01_WordTells.mono_l k
    · intro y0 y1 y2 y3 y4 y5 y6 y7 y8 y9 y10 y11 y12 y13
      unfold billhooklaw01_WordTells.l0
      repeat' first
      | (with_reducible exact ih0 _ _ _ _ _ _ _ _ _ _ _ _ _ _)
      | (with_reducible exact billhookref01_Binary.mono _ _ _ _)
      | (with_reducible exact billhookref01_Level.mono _ _)
      | (with_reducible exact billhookref01_Text.mono _ _)
      | (with_reducible exact LeO.refl _)
      | (with_reducible exact LeO.none _)
      | (with_reducible refine LeO.ite ?_ ?_)
      | (with_reducible refine LeO.bind ?_ (fun _ => ?_))
      | exact ih0 _ _ _ _ _ _ _ _ _ _ _ _ _ _
      | exact billhookref01_Binary.mono _ _ _ _
      | exact billhookref01_Level.mono _ _
      | exact billhookref01_Text.mono _ _
      | exact LeO.none _
      | refine LeO.ite ?_ ?_
      | refine LeO.bind ?_ (fun _ => ?_)
theorem billhooklaw01_WordTells.mono : ∀ a0 a1 a2 a3 a4 a5 k, LeO (billhooklaw01_WordTells.f k a0 a1 a2 a3 a4 a5) (billhooklaw01_WordTells.f (k + 1) a0 a1 a2 a3 a4 a5) := by
  intro a0 a1 a2 a3 a4 a5 k
  have ih0 := billhooklaw01_WordTells.mono_l k
  unfold billhooklaw01_WordTells.f
  repeat' first
      | (with_reducible exact ih0 _ _ _ _ _ _ _ _ _ _ _ _ _ _)
      | (with_reducible exact billhookref01_Binary.mono _ _ _ _)
      | (with_reducible exact billhookref01_Level.mono _ _)
      | (with_reducible exact billhookref01_Text.mono _ _)
      | (with_reducible exact LeO.refl _)
      | (with_reducible exact LeO.none _)
      | (with_reducible refine LeO.ite ?_ ?_)
      | (with_reducible refine LeO.bind ?_ (fun _ => ?_))
      | exact ih0 _ _ _ _ _ _ _ _ _ _ _ _ _ _
      | exact billhookref01_Binary.mono _ _ _ _
      | exact billhookref01_Level.mono _ _
      | exact billhookref01_Text.mono _ _
      | exact LeO.none _
      | refine LeO.ite ?_ ?_
      | refine LeO.bind ?_ (fun _ => ?_)
set_option maxHeartbeats 8000000 in
set_option maxRecDepth 100000 in
theorem billhooklaw01_WordTells.calls (k : Nat) (a0 : ByteArray) (a1 : Int) (a2 : Int) (a3 : Int) (a4 : Int) (a5 : Int) (w : World) (hG : GL w) (h : billhooklaw01_WordTells.f k a0 a1 a2 a3 a4 a5 = some true) :
    Calls Tryd.prog 3 #[.string a0, .int .u8 a1, .int .i64 a2, .int .i64 a3, .int .u8 a4, .int .u8 a5] w fun e w' => e = .returned (.bool true) ∧ Below w.heap.size w w' := by
  have HB := Aside0.mk (Below.refl w.heap.size w)
  have H : ((billhooklaw01_examples.f).bind fun t139 => (if t139 = true then ((billhooklaw01_op.f a0 a1).bind fun t140 => ((billhooklaw01_near.f a2 a4).bind fun t141 => ((billhooklaw01_near.f a3 a5).bind fun t142 => ((word_Binary.f t140 t141 t142).bind fun bt143 => ((billhookref01_Binary.f k t140 t141 t142).bind fun bt145 => ((word_Unary.f t140 t141).bind fun bt147 => ((billhookref01_Unary.f t140 t141).bind fun bt149 => ((word_Ops.f).bind fun t151 => ((billhookref01_Ops.f).bind fun t154 => (if (t151.length : Int) = (t154.length : Int) then (billhooklaw01_WordTells.l0 k t141 t139 t140 bt143.1 bt143.2 bt145.1 bt145.2 bt147.1 bt147.2 bt149.1 bt149.2 t151 t154 0) else (some false))))))))))) else (some false))) = some true := h
  clear h
  replace H := Option.bind_eq_some_iff.mp H
  obtain ⟨t139, A70, H⟩ := H
  replace H : (if t139 = true then ((billhooklaw01_op.f a0 a1).bind fun t140 => ((billhooklaw01_near.f a2 a4).bind fun t141 => ((billhooklaw01_near.f a3 a5).bind fun t142 => ((word_Binary.f t140 t141 t142).bind fun bt143 => ((billhookref01_Binary.f k t140 t141 t142).bind fun bt145 => ((word_Unary.f t140 t141).bind fun bt147 => ((billhookref01_Unary.f t140 t141).bind fun bt149 => ((word_Ops.f).bind fun t151 => ((billhookref01_Ops.f).bind fun t154 => (if (t151.length : Int) = (t154.length : Int) then (billhooklaw01_WordTells.l0 k t141 t139 t140 bt143.1 bt143.2 bt145.1 bt145.2 bt147.1 bt147.2 bt149.1 bt149.2 t151 t154 0) else (some false))))))))))) else (some false)) = some true := H
  have A7 := Aside0.mk A70
  clear A70
  by_cases c8 : t139 = true
  · subst c8
    have H1 : ((billhooklaw01_op.f a0 a1).bind fun t140 => ((billhooklaw01_near.f a2 a4).bind fun t141 => ((billhooklaw01_near.f a3 a5).bind fun t142 => ((word_Binary.f t140 t141 t142).bind fun bt143 => ((billhookref01_Binary.f k t140 t141 t142).bind fun bt145 => ((word_Unary.f t140 t141).bind fun bt147 => ((billhookref01_Unary.f t140 t141).bind fun bt149 => ((word_Ops.f).bind fun t151 => ((billhookref01_Ops.f).bind fun t154 => (if (t151.length : Int) = (t154.length : Int) then (billhooklaw01_WordTells.l0 k t141 true t140 bt143.1 bt143.2 bt145.1 bt145.2 bt147.1 bt147.2 bt149.1 bt149.2 t151 t154 0) else (some false))))))))))) = some true := by rw [if_pos rfl] at H; exact H
    clear H
    have H := H1
    clear H1
    replace H := Option.bind_eq_some_iff.mp H
    obtain ⟨t140, A90, H⟩ := H
    replace H : ((billhooklaw01_near.f a2 a4).bind fun t141 => ((billhooklaw01_near.f a3 a5).bind fun t142 => ((word_Binary.f t140 t141 t142).bind fun bt143 => ((billhookref01_Binary.f k t140 t141 t142).bind fun bt145 => ((word_Unary.f t140 t141).bind fun bt147 => ((billhookref01_Unary.f t140 t141).bind fun bt149 => ((word_Ops.f).bind fun t151 => ((billhookref01_Ops.f).bind fun t154 => (if (t151.length : Int) = (t154.length : Int) then (billhooklaw01_WordTells.l0 k t141 true t140 bt143.1 bt143.2 bt145.1 bt145.2 bt147.1 bt147.2 bt149.1 bt149.2 t151 t154 0) else (some false)))))))))) = some true := H
    have A9 := Aside0.mk A90
    clear A90
    replace H := Option.bind_eq_some_iff.mp H
    obtain ⟨t141, A100, H⟩ := H
    replace H : ((billhooklaw01_near.f a3 a5).bind fun t142 => ((word_Binary.f t140 t141 t142).bind fun bt143 => ((billhookref01_Binary.f k t140 t141 t142).bind fun bt145 => ((word_Unary.f t140 t141).bind fun bt147 => ((billhookref01_Unary.f t140 t141).bind fun bt149 => ((word_Ops.f).bind fun t151 => ((billhookref01_Ops.f).bind fun t154 => (if (t151.length : Int) = (t154.length : Int) then (billhooklaw01_WordTells.l0 k t141 true t140 bt143.1 bt143.2 bt145.1 bt145.2 bt147.1 bt147.2 bt149.1 bt149.2 t151 t154 0) else (some false))))))))) = some true := H
    have A10 := Aside0.mk A100
    clear A100
    replace H := Option.bind_eq_some_iff.mp H
    obtain ⟨t142, A110, H⟩ := H
    replace H : ((word_Binary.f t140 t141 t142).bind fun bt143 => ((billhookref01_Binary.f k t140 t141 t142).bind fun bt145 => ((word_Unary.f t140 t141).bind fun bt147 => ((billhookref01_Unary.f t140 t141).bind fun bt149 => ((word_Ops.f).bind fun t151 => ((billhookref01_Ops.f).bind fun t154 => (if (t151.length : Int) = (t154.length : Int) then (billhooklaw01_WordTells.l0 k t141 true t140 bt143.1 bt143.2 bt145.1 bt145.2 bt147.1 bt147.2 bt149.1 bt149.2 t151 t154 0) else (some false)))))))) = some true := H
    have A11 := Aside0.mk A110
    clear A110
    replace H := Option.bind_eq_some_iff.mp H
    obtain ⟨⟨t143, t144⟩, A120, H⟩ := H
    replace H : ((billhookref01_Binary.f k t140 t141 t142).bind fun bt145 => ((word_Unary.f t140 t141).bind fun bt147 => ((billhookref01_Unary.f t140 t141).bind fun bt149 => ((word_Ops.f).bind fun t151 => ((billhookref01_Ops.f).bind fun t154 => (if (t151.length : Int) = (t154.length : Int) then (billhooklaw01_WordTells.l0 k t141 true t140 t143 t144 bt145.1 bt145.2 bt147.1 bt147.2 bt149.1 bt149.2 t151 t154 0) else (some false))))))) = some true := H
    have A12 := Aside0.mk A120
    clear A120
    replace H := Option.bind_eq_some_iff.mp H
    obtain ⟨⟨t145, t146⟩, A130, H⟩ := H
    replace H : ((word_Unary.f t140 t141).bind fun bt147 => ((billhookref01_Unary.f t140 t141).bind fun bt149 => ((word_Ops.f).bind fun t151 => ((billhookref01_Ops.f).bind fun t154 => (if (t151.length : Int) = (t154.length : Int) then (billhooklaw01_WordTells.l0 k t141 true t140 t143 t144 t145 t146 bt147.1 bt147.2 bt149.1 bt149.2 t151 t154 0) else (some false)))))) = some true := H
    have A13 := Aside0.mk A130
    clear A130
    replace H := Option.bind_eq_some_iff.mp H
    obtain ⟨⟨t147, t148⟩, A140, H⟩ := H
    replace H : ((billhookref01_Unary.f t140 t141).bind fun bt149 => ((word_Ops.f).bind fun t151 => ((billhookref01_Ops.f).bind fun t154 => (if (t151.length : Int) = (t154.length : Int) then (billhooklaw01_WordTells.l0 k t141 true t140 t143 t144 t145 t146 t147 t148 bt149.1 bt149.2 t151 t154 0) else (some false))))) = some true := H
    have A14 := Aside0.mk A140
    clear A140
    replace H := Option.bind_eq_some_iff.mp H
    obtain ⟨⟨t149, t150⟩, A150, H⟩ := H
    replace H : ((word_Ops.f).bind fun t151 => ((billhookref01_Ops.f).bind fun t154 => (if (t151.length : Int) = (t154.length : Int) then (billhooklaw01_WordTells.l0 k t141 true t140 t143 t144 t145 t146 t147 t148 t149 t150 t151 t154 0) else (some false)))) = some true := H
    have A15 := Aside0.mk A150
    clear A150
    replace H := Option.bind_eq_some_iff.mp H
    obtain ⟨t151, A160, H⟩ := H
    replace H : ((billhookref01_Ops.f).bind fun t154 => (if (t151.length : Int) = (t154.length : Int) then (billhooklaw01_WordTells.l0 k t141 true t140 t143 t144 t145 t146 t147 t148 t149 t150 t151 t154 0) else (some false))) = some true := H
    have A16 := Aside0.mk A160
    clear A160
    replace H := Option.bind_eq_some_iff.mp H
    obtain ⟨t154, A170, H⟩ := H
    replace H : (if (t151.length : Int) = (t154.length : Int) then (billhooklaw01_WordTells.l0 k t141 true t140 t143 t144 t145 t146 t147 t148 t149 t150 t151 t154 0) else (some false)) = some true := H
    have A17 := Aside0.mk A170
    clear A170
    by_cases c18 : (t151.length : Int) = (t154.length : Int)
    · rw [if_pos c18] at H
      have c18b0 : ((t151.length : Int) == (t154.length : Int)) = true := beq_iff_eq.mpr c18
      have c18b1 : ((t151.length : Int) != (t154.length : Int)) = false := bne_eq_false_iff_eq.mpr c18
      have c18b2 : (t151.length == t154.length) = true := by first | simpa using c18 | (simp at c18 ⊢; omega)
      clear c18
      have H' := Aside0.mk H
      clear H
      go_enter Tryd.func3, Tryd.ntmps3
      go_wp2_with (first | (go_at_call 11; (with_reducible refine (billhooklaw01_examples.calls  true _ ?side1 A7.out).mono ?_); (case side1 => exact GL.below hG (by repeat (first | (with_reducible first | exact HB.out | apply below_alloc | apply pw_below_drewN | apply below_drew1) | exact HB.out))); rintro e w19 ⟨rfl, hb⟩; have n0_ := Aside0.mk (below_step (by repeat (first | (with_reducible first | exact HB.out | apply below_alloc | apply pw_below_drewN | apply below_drew1) | exact HB.out)) hb); clear HB; have HB := n0_; clear n0_; (try clear hb); (try clear hb2); (try clear hk); (try clear hi)) | (go_at_call 12; (with_reducible refine (billhooklaw01_op.calls a0 a1 t140 _ A9.out).mono ?_); rintro e w20 ⟨rfl, hb⟩; have n0_ := Aside0.mk (below_step (by repeat (first | (with_reducible first | exact HB.out | apply below_alloc | apply pw_below_drewN | apply below_drew1) | exact HB.out)) hb); clear HB; have HB := n0_; clear n0_; (try clear hb); (try clear hb2); (try clear hk); (try clear hi)) | (go_at_call 13; (with_reducible refine (billhooklaw01_near.calls a2 a4 t141 _ A10.out).mono ?_); rintro e w21 ⟨rfl, hb⟩; have n0_ := Aside0.mk (below_step (by repeat (first | (with_reducible first | exact HB.out | apply below_alloc | apply pw_below_drewN | apply below_drew1) | exact HB.out)) hb); clear HB; have HB := n0_; clear n0_; (try clear hb); (try clear hb2); (try clear hk); (try clear hi)) | (go_at_call 13; (with_reducible refine (billhooklaw01_near.calls a3 a5 t142 _ A11.out).mono ?_); rintro e w22 ⟨rfl, hb⟩; have n0_ := Aside0.mk (below_step (by repeat (first | (with_reducible first | exact HB.out | apply below_alloc | apply pw_below_drewN | apply below_drew1) | exact HB.out)) hb); clear HB; have HB := n0_; clear n0_; (try clear hb); (try clear hb2); (try clear hk); (try clear hi)) | (go_at_call 14; (with_reducible refine (word_Binary.calls t140 t141 t142 t143 t144 _ A12.out).mono ?_); rintro e w23 ⟨rfl, hb⟩; have n0_ := Aside0.mk (below_step (by repeat (first | (with_reducible first | exact HB.out | apply below_alloc | apply pw_below_drewN | apply below_drew1) | exact HB.out)) hb); clear HB; have HB := n0_; clear n0_; (try clear hb); (try clear hb2); (try clear hk); (try clear hi)) | (go_at_call 15; (with_reducible refine (billhookref01_Binary.calls k t140 t141 t142 t145 t146 _ A13.out).mono ?_); rintro e w' ⟨rfl, ⟨nd, rfl⟩⟩; (try first | exact ⟨rfl, _, World.drewN_drewN _ _ _⟩ | exact ⟨rfl, _, Eq.trans (World.drewN_drewN _ _ _) (congrArg (World.drewN _) (Nat.add_assoc _ _ _))⟩)) | (go_at_call 16; (with_reducible refine (word_Unary.calls t140 t141 t147 t148 _ A14.out).mono ?_); rintro e w' ⟨rfl, ⟨nd, rfl⟩⟩; (try first | exact ⟨rfl, _, World.drewN_drewN _ _ _⟩ | exact ⟨rfl, _, Eq.trans (World.drewN_drewN _ _ _) (congrArg (World.drewN _) (Nat.add_assoc _ _ _))⟩)) | (go_at_call 17; (with_reducible refine (billhookref01_Unary.calls t140 t141 t149 t150 _ A15.out).mono ?_); rintro e w' ⟨rfl, ⟨nd, rfl⟩⟩; (try first | exact ⟨rfl, _, World.drewN_drewN _ _ _⟩ | exact ⟨rfl, _, Eq.trans (World.drewN_drewN _ _ _) (congrArg (World.drewN _) (Nat.add_assoc _ _ _))⟩)) | (go_at_call 18; (with_reducible refine (word_Ops.calls  t151 _ A16.out).mono ?_); rintro e w24 ⟨v152, rfl, ho0, hb⟩; have n0_ := Aside0.mk (Kd.R_lower ho0 (below_size (by repeat (first | (with_reducible first | exact HB.out | apply below_alloc | apply pw_below_drewN | apply below_drew1) | exact HB.out)))); have n1_ := Aside0.mk (below_step (by repeat (first | (with_reducible first | exact HB.out | apply below_alloc | apply pw_below_drewN | apply below_drew1) | exact HB.out)) hb); clear HB; have HO153 := n0_; have HB := n1_; clear n0_ n1_; (try clear hb); (try clear hb2); (try clear hk); (try clear hi); (try clear ho0)) | (go_at_call 19; (with_reducible refine (billhookref01_Ops.calls  t154 _ A17.out).mono ?_); rintro e w25 ⟨v155, rfl, ho0, hb⟩; have n0_ := Aside0.mk (Kd.R_elder' (by (with_reducible repeat (first | apply Kd.R_alloc | apply Kd.R_drewN | apply Kd.R_drew)); exact HO153.out) (Kd.R_base ho0) hb); have n1_ := Aside0.mk (Kd.R_lower (Kd.R_new' ho0 (Kd.R_lt (by (with_reducible repeat (first | apply Kd.R_alloc | apply Kd.R_drewN | apply Kd.R_drew)); exact HO153.out))) (below_size (by repeat (first | (with_reducible first | exact HB.out | apply below_alloc | apply pw_below_drewN | apply below_drew1) | exact HB.out)))); have n2_ := Aside0.mk (below_step (by repeat (first | (with_reducible first | exact HB.out | apply below_alloc | apply pw_below_drewN | apply below_drew1) | exact HB.out)) hb); clear HO153; clear HB; have HO153 := n0_; have HO156 := n1_; have HB := n2_; clear n0_ n1_ n2_; (try clear hb); (try clear hb2); (try clear hk); (try clear hi); (try clear ho0); obtain ⟨Ao26, co26, eo26⟩ := Kd.R_slice HO153.out; subst eo26; obtain ⟨Ao27, co27, eo27⟩ := Kd.R_slice HO156.out; subst eo27))
      repeat (go_quiet (first | (go_at_call 11; (with_reducible refine (billhooklaw01_examples.calls  true _ ?side1 A7.out).mono ?_); (case side1 => exact GL.below hG (by repeat (first | (with_reducible first | exact HB.out | apply below_alloc | apply pw_below_drewN | apply below_drew1) | exact HB.out))); rintro e w19 ⟨rfl, hb⟩; have n0_ := Aside0.mk (below_step (by repeat (first | (with_reducible first | exact HB.out | apply below_alloc | apply pw_below_drewN | apply below_drew1) | exact HB.out)) hb); clear HB; have HB := n0_; clear n0_; (try clear hb); (try clear hb2); (try clear hk); (try clear hi)) | (go_at_call 12; (with_reducible refine (billhooklaw01_op.calls a0 a1 t140 _ A9.out).mono ?_); rintro e w20 ⟨rfl, hb⟩; have n0_ := Aside0.mk (below_step (by repeat (first | (with_reducible first | exact HB.out | apply below_alloc | apply pw_below_drewN | apply below_drew1) | exact HB.out)) hb); clear HB; have HB := n0_; clear n0_; (try clear hb); (try clear hb2); (try clear hk); (try clear hi)) | (go_at_call 13; (with_reducible refine (billhooklaw01_near.calls a2 a4 t141 _ A10.out).mono ?_); rintro e w21 ⟨rfl, hb⟩; have n0_ := Aside0.mk (below_step (by repeat (first | (with_reducible first | exact HB.out | apply below_alloc | apply pw_below_drewN | apply below_drew1) | exact HB.out)) hb); clear HB; have HB := n0_; clear n0_; (try clear hb); (try clear hb2); (try clear hk); (try clear hi)) | (go_at_call 13; (with_reducible refine (billhooklaw01_near.calls a3 a5 t142 _ A11.out).mono ?_); rintro e w22 ⟨rfl, hb⟩; have n0_ := Aside0.mk (below_step (by repeat (first | (with_reducible first | exact HB.out | apply below_alloc | apply pw_below_drewN | apply below_drew1) | exact HB.out)) hb); clear HB; have HB := n0_; clear n0_; (try clear hb); (try clear hb2); (try clear hk); (try clear hi)) | (go_at_call 14; (with_reducible refine (word_Binary.calls t140 t141 t142 t143 t144 _ A12.out).mono ?_); rintro e w23 ⟨rfl, hb⟩; have n0_ := Aside0.mk (below_step (by repeat (first | (with_reducible first | exact HB.out | apply below_alloc | apply pw_below_drewN | apply below_drew1) | exact HB.out)) hb); clear HB; have HB := n0_; clear n0_; (try clear hb); (try clear hb2); (try clear hk); (try clear hi)) | (go_at_call 15; (with_reducible refine (billhookref01_Binary.calls k t140 t141 t142 t145 t146 _ A13.out).mono ?_); rintro e w' ⟨rfl, ⟨nd, rfl⟩⟩; (try first | exact ⟨rfl, _, World.drewN_drewN _ _ _⟩ | exact ⟨rfl, _, Eq.trans (World.drewN_drewN _ _ _) (congrArg (World.drewN _) (Nat.add_assoc _ _ _))⟩)) | (go_at_call 16; (with_reducible refine (word_Unary.calls t140 t141 t147 t148 _ A14.out).mono ?_); rintro e w' ⟨rfl, ⟨nd, rfl⟩⟩; (try first | exact ⟨rfl, _, World.drewN_drewN _ _ _⟩ | exact ⟨rfl, _, Eq.trans (World.drewN_drewN _ _ _) (congrArg (World.drewN _) (Nat.add_assoc _ _ _))⟩)) | (go_at_call 17; (with_reducible refine (billhookref01_Unary.calls t140 t141 t149 t150 _ A15.out).mono ?_); rintro e w' ⟨rfl, ⟨nd, rfl⟩⟩; (try first | exact ⟨rfl, _, World.drewN_drewN _ _ _⟩ | exact ⟨rfl, _, Eq.trans (World.drewN_drewN _ _ _) (congrArg (World.drewN _) (Nat.add_assoc _ _ _))⟩)) | (go_at_call 18; (with_reducible refine (word_Ops.calls  t151 _ A16.out).mono ?_); rintro e w24 ⟨v152, rfl, ho0, hb⟩; have n0_ := Aside0.mk (Kd.R_lower ho0 (below_size (by repeat (first | (with_reducible first | exact HB.out | apply below_alloc | apply pw_below_drewN | apply below_drew1) | exact HB.out)))); have n1_ := Aside0.mk (below_step (by repeat (first | (with_reducible first | exact HB.out | apply below_alloc | apply pw_below_drewN | apply below_drew1) | exact HB.out)) hb); clear HB; have HO153 := n0_; have HB := n1_; clear n0_ n1_; (try clear hb); (try clear hb2); (try clear hk); (try clear hi); (try clear ho0)) | (go_at_call 19; (with_reducible refine (billhookref01_Ops.calls  t154 _ A17.out).mono ?_); rintro e w25 ⟨v155, rfl, ho0, hb⟩; have n0_ := Aside0.mk (Kd.R_elder' (by (with_reducible repeat (first | apply Kd.R_alloc | apply Kd.R_drewN | apply Kd.R_drew)); exact HO153.out) (Kd.R_base ho0) hb); have n1_ := Aside0.mk (Kd.R_lower (Kd.R_new' ho0 (Kd.R_lt (by (with_reducible repeat (first | apply Kd.R_alloc | apply Kd.R_drewN | apply Kd.R_drew)); exact HO153.out))) (below_size (by repeat (first | (with_reducible first | exact HB.out | apply below_alloc | apply pw_below_drewN | apply below_drew1) | exact HB.out)))); have n2_ := Aside0.mk (below_step (by repeat (first | (with_reducible first | exact HB.out | apply below_alloc | apply pw_below_drewN | apply below_drew1) | exact HB.out)) hb); clear HO153; clear HB; have HO153 := n0_; have HO156 := n1_; have HB := n2_; clear n0_ n1_ n2_; (try clear hb); (try clear hb2); (try clear hk); (try clear hi); (try clear ho0); obtain ⟨Ao26, co26, eo26⟩ := Kd.R_slice HO153.out; subst eo26; obtain ⟨Ao27, co27, eo27⟩ := Kd.R_slice HO156.out; subst eo27)); try go_wp2_with (first | (go_at_call 11; (with_reducible refine (billhooklaw01_examples.calls  true _ ?side1 A7.out).mono ?_); (case side1 => exact GL.below hG (by repeat (first | (with_reducible first | exact HB.out | apply below_alloc | apply pw_below_drewN | apply below_drew1) | exact HB.out))); rintro e w19 ⟨rfl, hb⟩; have n0_ := Aside0.mk (below_step (by repeat (first | (with_reducible first | exact HB.out | apply below_alloc | apply pw_below_drewN | apply below_drew1) | exact HB.out)) hb); clear HB; have HB := n0_; clear n0_; (try clear hb); (try clear hb2); (try clear hk); (try clear hi)) | (go_at_call 12; (with_reducible refine (billhooklaw01_op.calls a0 a1 t140 _ A9.out).mono ?_); rintro e w20 ⟨rfl, hb⟩; have n0_ := Aside0.mk (below_step (by repeat (first | (with_reducible first | exact HB.out | apply below_alloc | apply pw_below_drewN | apply below_drew1) | exact HB.out)) hb); clear HB; have HB := n0_; clear n0_; (try clear hb); (try clear hb2); (try clear hk); (try clear hi)) | (go_at_call 13; (with_reducible refine (billhooklaw01_near.calls a2 a4 t141 _ A10.out).mono ?_); rintro e w21 ⟨rfl, hb⟩; have n0_ := Aside0.mk (below_step (by repeat (first | (with_reducible first | exact HB.out | apply below_alloc | apply pw_below_drewN | apply below_drew1) | exact HB.out)) hb); clear HB; have HB := n0_; clear n0_; (try clear hb); (try clear hb2); (try clear hk); (try clear hi)) | (go_at_call 13; (with_reducible refine (billhooklaw01_near.calls a3 a5 t142 _ A11.out).mono ?_); rintro e w22 ⟨rfl, hb⟩; have n0_ := Aside0.mk (below_step (by repeat (first | (with_reducible first | exact HB.out | apply below_alloc | apply pw_below_drewN | apply below_drew1) | exact HB.out)) hb); clear HB; have HB := n0_; clear n0_; (try clear hb); (try clear hb2); (try clear hk); (try clear hi)) | (go_at_call 14; (with_reducible refine (word_Binary.calls t140 t141 t142 t143 t144 _ A12.out).mono ?_); rintro e w23 ⟨rfl, hb⟩; have n0_ := Aside0.mk (below_step (by repeat (first | (with_reducible first | exact HB.out | apply below_alloc | apply pw_below_drewN | apply below_drew1) | exact HB.out)) hb); clear HB; have HB := n0_; clear n0_; (try clear hb); (try clear hb2); (try clear hk); (try clear hi)) | (go_at_call 15; (with_reducible refine (billhookref01_Binary.calls k t140 t141 t142 t145 t146 _ A13.out).mono ?_); rintro e w' ⟨rfl, ⟨nd, rfl⟩⟩; (try first | exact ⟨rfl, _, World.drewN_drewN _ _ _⟩ | exact ⟨rfl, _, Eq.trans (World.drewN_drewN _ _ _) (congrArg (World.drewN _) (Nat.add_assoc _ _ _))⟩)) | (go_at_call 16; (with_reducible refine (word_Unary.calls t140 t141 t147 t148 _ A14.out).mono ?_); rintro e w' ⟨rfl, ⟨nd, rfl⟩⟩; (try first | exact ⟨rfl, _, World.drewN_drewN _ _ _⟩ | exact ⟨rfl, _, Eq.trans (World.drewN_drewN _ _ _) (congrArg (World.drewN _) (Nat.add_assoc _ _ _))⟩)) | (go_at_call 17; (with_reducible refine (billhookref01_Unary.calls t140 t141 t149 t150 _ A15.out).mono ?_); rintro e w' ⟨rfl, ⟨nd, rfl⟩⟩; (try first | exact ⟨rfl, _, World.drewN_drewN _ _ _⟩ | exact ⟨rfl, _, Eq.trans (World.drewN_drewN _ _ _) (congrArg (World.drewN _) (Nat.add_assoc _ _ _))⟩)) | (go_at_call 18; (with_reducible refine (word_Ops.calls  t151 _ A16.out).mono ?_); rintro e w24 ⟨v152, rfl, ho0, hb⟩; have n0_ := Aside0.mk (Kd.R_lower ho0 (below_size (by repeat (first | (with_reducible first | exact HB.out | apply below_alloc | apply pw_below_drewN | apply below_drew1) | exact HB.out)))); have n1_ := Aside0.mk (below_step (by repeat (first | (with_reducible first | exact HB.out | apply below_alloc | apply pw_below_drewN | apply below_drew1) | exact HB.out)) hb); clear HB; have HO153 := n0_; have HB := n1_; clear n0_ n1_; (try clear hb); (try clear hb2); (try clear hk); (try clear hi); (try clear ho0)) | (go_at_call 19; (with_reducible refine (billhookref01_Ops.calls  t154 _ A17.out).mono ?_); rintro e w25 ⟨v155, rfl, ho0, hb⟩; have n0_ := Aside0.mk (Kd.R_elder' (by (with_reducible repeat (first | apply Kd.R_alloc | apply Kd.R_drewN | apply Kd.R_drew)); exact HO153.out) (Kd.R_base ho0) hb); have n1_ := Aside0.mk (Kd.R_lower (Kd.R_new' ho0 (Kd.R_lt (by (with_reducible repeat (first | apply Kd.R_alloc | apply Kd.R_drewN | apply Kd.R_drew)); exact HO153.out))) (below_size (by repeat (first | (with_reducible first | exact HB.out | apply below_alloc | apply pw_below_drewN | apply below_drew1) | exact HB.out)))); have n2_ := Aside0.mk (below_step (by repeat (first | (with_reducible first | exact HB.out | apply below_alloc | apply pw_below_drewN | apply below_drew1) | exact HB.out)) hb); clear HO153; clear HB; have HO153 := n0_; have HO156 := n1_; have HB := n2_; clear n0_ n1_ n2_; (try clear hb); (try clear hb2); (try clear hk); (try clear hi); (try clear ho0); obtain ⟨Ao26, co26, eo26⟩ := Kd.R_slice HO153.out; subst eo26; obtain ⟨Ao27, co27, eo27⟩ := Kd.R_slice HO156.out; subst eo27)))
      go_loopg [25] k (fun kq v25 w' => ∃ (x25_1 : Int), v25 = .int .i64 x25_1 ∧ Aside0 (billhooklaw01_WordTells.l0 kq t141 true t140 t143 t144 t145 t146 t147 t148 t149 t150 t151 t154 x25_1 = some true) ∧ Aside0 (kq ≤ k) ∧ Aside0 (Kd.R Kd.string 9 w' w.heap.size (fun k_ => some k_ ≠ ((.slice Ao27 t154.length co27) : Value).ownBlock) (.slice Ao26 t151.length co26) t151) ∧ Aside0 (Kd.R Kd.string 9 w' w.heap.size (fun k_ => some k_ ≠ ((.slice Ao26 t151.length co26) : Value).ownBlock) (.slice Ao27 t154.length co27) t154) ∧ Aside0 (Below w.heap.size w w'))
      case atStart => exact ⟨(0), (by first | rfl | (simp; done) | (simp [*]; done)), H', ⟨Nat.le_refl _⟩, ⟨by (with_reducible repeat (first | apply Kd.R_alloc | apply Kd.R_drewN | apply Kd.R_drew)); exact Kd.R_mono HO153.out (fun _ hk => hk.2)⟩, ⟨by (with_reducible repeat (first | apply Kd.R_alloc | apply Kd.R_drewN | apply Kd.R_drew)); exact Kd.R_mono HO156.out (fun _ hk => hk.2)⟩, ⟨by repeat (first | (with_reducible first | exact HB.out | apply below_alloc | apply pw_below_drewN | apply below_drew1) | exact HB.out)⟩⟩
      case round =>
        clear H'
        try clear c1
        try clear p2
        try clear c3
        try clear c8
        try clear c18
        try clear c18b0
        try clear c18b1
        try clear c18b2
        obtain ⟨x25_1, rfl, HA, HK1, HO_23, HO_24, HB⟩ := hrel
        cases gk with
        | zero => exact absurd HA.out (by simp [billhooklaw01_WordTells.l0])
        | succ k1 =>
          have H := HA.out
          clear HA
          simp only [billhooklaw01_WordTells.l0] at H
          by_cases c28 : x25_1 < (t151.length : Int)
          · rw [if_pos c28] at H
            have c28b0 : decide (x25_1 < (t151.length : Int)) = true := decide_eq_true c28
            clear c28
            by_cases c29 : 0 ≤ x25_1
            · rw [if_pos c29] at H
              have c29b0 : decide (0 ≤ x25_1) = true := decide_eq_true c29
              clear c29
              by_cases c30 : x25_1 < (t154.length : Int)
              · rw [if_pos c30] at H
                have c30b0 : decide (x25_1 < (t154.length : Int)) = true := decide_eq_true c30
                clear c30
                by_cases c31 : (rdOf ByteArray.empty t151 x25_1).toList = (rdOf ByteArray.empty t154 x25_1).toList
                · rw [if_pos c31] at H
                  have c31b0 : ((rdOf ByteArray.empty t151 x25_1).toList == (rdOf ByteArray.empty t154 x25_1).toList) = true := beq_iff_eq.mpr c31
                  have c31b1 : ((rdOf ByteArray.empty t151 x25_1).toList != (rdOf ByteArray.empty t154 x25_1).toList) = false := bne_eq_false_iff_eq.mpr c31
                  clear c31
                  have H' := Aside0.mk H
                  clear H
                  have p157 : 0 ≤ (x25_1 : Int) := of_decide_eq_true (by first | (with_reducible assumption) | assumption)
                  have q157 : x25_1 < (t151.length : Int) := of_decide_eq_true (by first | (with_reducible assumption) | assumption)
                  obtain ⟨ad157, e157, hx157_0⟩ := Kd.at_string (Kd.R_reads' HO_23.out).2.2 x25_1 p157 q157
                  cases e157
                  replace p157 := eq_true p157
                  replace q157 := eq_true q157
                  have p158 : 0 ≤ (x25_1 : Int) := of_decide_eq_true (by first | (with_reducible assumption) | assumption)
                  have q158 : x25_1 < (t154.length : Int) := of_decide_eq_true (by first | (with_reducible assumption) | assumption)
                  obtain ⟨ad158, e158, hx158_0⟩ := Kd.at_string (Kd.R_reads' HO_24.out).2.2 x25_1 p158 q158
                  cases e158
                  replace p158 := eq_true p158
                  replace q158 := eq_true q158
                  go_wp2
                  repeat (go_quiet (fail); try go_wp2)
                  go_roundg k1
                  case measure => have := HK1.out; omega
                  case rel => exact ⟨(wrap64 (x25_1 + 1)), (by first | rfl | (simp; done) | (simp [*]; done)), H', ⟨by have := HK1.out; omega⟩, ⟨by (with_reducible repeat (first | apply Kd.R_alloc | apply Kd.R_drewN | apply Kd.R_drew)); exact HO_23.out⟩, ⟨by (with_reducible repeat (first | apply Kd.R_alloc | apply Kd.R_drewN | apply Kd.R_drew)); exact HO_24.out⟩, ⟨by repeat (first | (with_reducible first | exact HB.out | apply below_alloc | apply pw_below_drewN | apply below_drew1) | exact HB.out)⟩⟩
                · rw [if_neg c31] at H
                  have c31b0 : ((rdOf ByteArray.empty t151 x25_1).toList == (rdOf ByteArray.empty t154 x25_1).toList) = false := beq_eq_false_iff_ne.mpr c31
                  have c31b1 : ((rdOf ByteArray.empty t151 x25_1).toList != (rdOf ByteArray.empty t154 x25_1).toList) = true := bne_iff_ne.mpr c31
                  exact absurd H (by simp)
              · rw [if_neg c30] at H
                exact absurd H (by simp)
            · rw [if_neg c29] at H
              exact absurd H (by simp)
          · rw [if_neg c28] at H
            have c28b0 : decide (x25_1 < (t151.length : Int)) = false := decide_eq_false c28
            clear c28
            (first | rw [if_pos (show (true : Bool) = true from rfl)] at H | rw [if_pos True.intro] at H)
            by_cases c32 : t143 = t145
            · rw [if_pos c32] at H
              have c32b0 : (t143 == t145) = true := beq_iff_eq.mpr c32
              have c32b1 : (t143 != t145) = false := bne_eq_false_iff_eq.mpr c32
              clear c32
              by_cases c33 : t144 = t146
              · rw [if_pos c33] at H
                have c33b0 : (t144 == t146) = true := beq_iff_eq.mpr c33
                have c33b1 : (t144 != t146) = false := bne_eq_false_iff_eq.mpr c33
                clear c33
                by_cases c34 : t147 = t149
                · rw [if_pos c34] at H
                  have c34b0 : (t147 == t149) = true := beq_iff_eq.mpr c34
                  have c34b1 : (t147 != t149) = false := bne_eq_false_iff_eq.mpr c34
                  clear c34
                  by_cases c35 : (t148 == t150) = true
                  · rw [if_pos c35] at H
                    have c35b0 : (t148 == t150) = true := c35
                    (try (have c35b1 : decide (t148 = t150) = true := by simpa using c35))
                    (try (have c35b2 : (t148 == t150) = true := by simpa using c35))
                    clear c35
                    replace H := Option.bind_eq_some_iff.mp H
                    obtain ⟨t159, A360, H⟩ := H
                    replace H : ((billhookref01_Level.f k1 t140).bind fun t160 => (if t159 = t160 then ((word_Text.f t141).bind fun t161 => ((billhookref01_Text.f k1 t141).bind fun t162 => (some (t161.toList == t162.toList)))) else (some false))) = some true := H
                    have A36 := Aside0.mk A360
                    clear A360
                    replace H := Option.bind_eq_some_iff.mp H
                    obtain ⟨t160, A370, H⟩ := H
                    replace H : (if t159 = t160 then ((word_Text.f t141).bind fun t161 => ((billhookref01_Text.f k1 t141).bind fun t162 => (some (t161.toList == t162.toList)))) else (some false)) = some true := H
                    have A37 := Aside0.mk A370
                    clear A370
                    by_cases c38 : t159 = t160
                    · rw [if_pos c38] at H
                      have c38b0 : (t159 == t160) = true := beq_iff_eq.mpr c38
                      have c38b1 : (t159 != t160) = false := bne_eq_false_iff_eq.mpr c38
                      clear c38
                      replace H := Option.bind_eq_some_iff.mp H
                      obtain ⟨t161, A390, H⟩ := H
                      replace H : ((billhookref01_Text.f k1 t141).bind fun t162 => (some (t161.toList == t162.toList))) = some true := H
                      have A39 := Aside0.mk A390
                      clear A390
                      replace H := Option.bind_eq_some_iff.mp H
                      obtain ⟨t162, A400, H⟩ := H
                      replace H : (some (t161.toList == t162.toList)) = some true := H
                      have A40 := Aside0.mk A400
                      clear A400
                      have HTh := Aside0.mk (Option.some.inj H)
                      clear H
                      go_wp2_with (first | (go_at_call 20; (with_reducible refine (word_Level.calls t140 t159 _ A36.out).mono ?_); rintro e w41 ⟨rfl, hb⟩; have n0_ := Aside0.mk (Kd.R_below (by (with_reducible repeat (first | apply Kd.R_alloc | apply Kd.R_drewN | apply Kd.R_drew)); exact HO_23.out) hb); have n1_ := Aside0.mk (Kd.R_below (by (with_reducible repeat (first | apply Kd.R_alloc | apply Kd.R_drewN | apply Kd.R_drew)); exact HO_24.out) hb); have n2_ := Aside0.mk (below_step (by repeat (first | (with_reducible first | exact HB.out | apply below_alloc | apply pw_below_drewN | apply below_drew1) | exact HB.out)) hb); clear HO_23; clear HO_24; clear HB; have HO_23 := n0_; have HO_24 := n1_; have HB := n2_; clear n0_ n1_ n2_; (try clear hb); (try clear hb2); (try clear hk); (try clear hi)) | (go_at_call 21; (with_reducible refine (billhookref01_Level.calls k1 t140 t160 _ A37.out).mono ?_); rintro e w42 ⟨rfl, hb⟩; have n0_ := Aside0.mk (Kd.R_below (by (with_reducible repeat (first | apply Kd.R_alloc | apply Kd.R_drewN | apply Kd.R_drew)); exact HO_23.out) hb); have n1_ := Aside0.mk (Kd.R_below (by (with_reducible repeat (first | apply Kd.R_alloc | apply Kd.R_drewN | apply Kd.R_drew)); exact HO_24.out) hb); have n2_ := Aside0.mk (below_step (by repeat (first | (with_reducible first | exact HB.out | apply below_alloc | apply pw_below_drewN | apply below_drew1) | exact HB.out)) hb); clear HO_23; clear HO_24; clear HB; have HO_23 := n0_; have HO_24 := n1_; have HB := n2_; clear n0_ n1_ n2_; (try clear hb); (try clear hb2); (try clear hk); (try clear hi)) | (go_at_call 22; (with_reducible refine (word_Text.calls t141 t161 _ ?side1 A39.out).mono ?_); (case side1 => exact GL.below hG (by repeat (first | (with_reducible first | exact HB.out | apply below_alloc | apply pw_below_drewN | apply below_drew1) | exact HB.out))); rintro e w43 ⟨rfl, hb⟩; have n0_ := Aside0.mk (Kd.R_below (by (with_reducible repeat (first | apply Kd.R_alloc | apply Kd.R_drewN | apply Kd.R_drew)); exact HO_23.out) hb); have n1_ := Aside0.mk (Kd.R_below (by (with_reducible repeat (first | apply Kd.R_alloc | apply Kd.R_drewN | apply Kd.R_drew)); exact HO_24.out) hb); have n2_ := Aside0.mk (below_step (by repeat (first | (with_reducible first | exact HB.out | apply below_alloc | apply pw_below_drewN | apply below_drew1) | exact HB.out)) hb); clear HO_23; clear HO_24; clear HB; have HO_23 := n0_; have HO_24 := n1_; have HB := n2_; clear n0_ n1_ n2_; (try clear hb); (try clear hb2); (try clear hk); (try clear hi)) | (go_at_call 23; (with_reducible refine (billhookref01_Text.calls k1 t141 t162 _ A40.out).mono ?_); rintro e w44 ⟨rfl, hb⟩; have n0_ := Aside0.mk (Kd.R_below (by (with_reducible repeat (first | apply Kd.R_alloc | apply Kd.R_drewN | apply Kd.R_drew)); exact HO_23.out) hb); have n1_ := Aside0.mk (Kd.R_below (by (with_reducible repeat (first | apply Kd.R_alloc | apply Kd.R_drewN | apply Kd.R_drew)); exact HO_24.out) hb); have n2_ := Aside0.mk (below_step (by repeat (first | (with_reducible first | exact HB.out | apply below_alloc | apply pw_below_drewN | apply below_drew1) | exact HB.out)) hb); clear HO_23; clear HO_24; clear HB; have HO_23 := n0_; have HO_24 := n1_; have HB := n2_; clear n0_ n1_ n2_; (try clear hb); (try clear hb2); (try clear hk); (try clear hi)))
                      repeat (go_quiet (first | (go_at_call 20; (with_reducible refine (word_Level.calls t140 t159 _ A36.out).mono ?_); rintro e w41 ⟨rfl, hb⟩; have n0_ := Aside0.mk (Kd.R_below (by (with_reducible repeat (first | apply Kd.R_alloc | apply Kd.R_drewN | apply Kd.R_drew)); exact HO_23.out) hb); have n1_ := Aside0.mk (Kd.R_below (by (with_reducible repeat (first | apply Kd.R_alloc | apply Kd.R_drewN | apply Kd.R_drew)); exact HO_24.out) hb); have n2_ := Aside0.mk (below_step (by repeat (first | (with_reducible first | exact HB.out | apply below_alloc | apply pw_below_drewN | apply below_drew1) | exact HB.out)) hb); clear HO_23; clear HO_24; clear HB; have HO_23 := n0_; have HO_24 := n1_; have HB := n2_; clear n0_ n1_ n2_; (try clear hb); (try clear hb2); (try clear hk); (try clear hi)) | (go_at_call 21; (with_reducible refine (billhookref01_Level.calls k1 t140 t160 _ A37.out).mono ?_); rintro e w42 ⟨rfl, hb⟩; have n0_ := Aside0.mk (Kd.R_below (by (with_reducible repeat (first | apply Kd.R_alloc | apply Kd.R_drewN | apply Kd.R_drew)); exact HO_23.out) hb); have n1_ := Aside0.mk (Kd.R_below (by (with_reducible repeat (first | apply Kd.R_alloc | apply Kd.R_drewN | apply Kd.R_drew)); exact HO_24.out) hb); have n2_ := Aside0.mk (below_step (by repeat (first | (with_reducible first | exact HB.out | apply below_alloc | apply pw_below_drewN | apply below_drew1) | exact HB.out)) hb); clear HO_23; clear HO_24; clear HB; have HO_23 := n0_; have HO_24 := n1_; have HB := n2_; clear n0_ n1_ n2_; (try clear hb); (try clear hb2); (try clear hk); (try clear hi)) | (go_at_call 22; (with_reducible refine (word_Text.calls t141 t161 _ ?side1 A39.out).mono ?_); (case side1 => exact GL.below hG (by repeat (first | (with_reducible first | exact HB.out | apply below_alloc | apply pw_below_drewN | apply below_drew1) | exact HB.out))); rintro e w43 ⟨rfl, hb⟩; have n0_ := Aside0.mk (Kd.R_below (by (with_reducible repeat (first | apply Kd.R_alloc | apply Kd.R_drewN | apply Kd.R_drew)); exact HO_23.out) hb); have n1_ := Aside0.mk (Kd.R_below (by (with_reducible repeat (first | apply Kd.R_alloc | apply Kd.R_drewN | apply Kd.R_drew)); exact HO_24.out) hb); have n2_ := Aside0.mk (below_step (by repeat (first | (with_reducible first | exact HB.out | apply below_alloc | apply pw_below_drewN | apply below_drew1) | exact HB.out)) hb); clear HO_23; clear HO_24; clear HB; have HO_23 := n0_; have HO_24 := n1_; have HB := n2_; clear n0_ n1_ n2_; (try clear hb); (try clear hb2); (try clear hk); (try clear hi)) | (go_at_call 23; (with_reducible refine (billhookref01_Text.calls k1 t141 t162 _ A40.out).mono ?_); rintro e w44 ⟨rfl, hb⟩; have n0_ := Aside0.mk (Kd.R_below (by (with_reducible repeat (first | apply Kd.R_alloc | apply Kd.R_drewN | apply Kd.R_drew)); exact HO_23.out) hb); have n1_ := Aside0.mk (Kd.R_below (by (with_reducible repeat (first | apply Kd.R_alloc | apply Kd.R_drewN | apply Kd.R_drew)); exact HO_24.out) hb); have n2_ := Aside0.mk (below_step (by repeat (first | (with_reducible first | exact HB.out | apply below_alloc | apply pw_below_drewN | apply below_drew1) | exact HB.out)) hb); clear HO_23; clear HO_24; clear HB; have HO_23 := n0_; have HO_24 := n1_; have HB := n2_; clear n0_ n1_ n2_; (try clear hb); (try clear hb2); (try clear hk); (try clear hi))); try go_wp2_with (first | (go_at_call 20; (with_reducible refine (word_Level.calls t140 t159 _ A36.out).mono ?_); rintro e w41 ⟨rfl, hb⟩; have n0_ := Aside0.mk (Kd.R_below (by (with_reducible repeat (first | apply Kd.R_alloc | apply Kd.R_drewN | apply Kd.R_drew)); exact HO_23.out) hb); have n1_ := Aside0.mk (Kd.R_below (by (with_reducible repeat (first | apply Kd.R_alloc | apply Kd.R_drewN | apply Kd.R_drew)); exact HO_24.out) hb); have n2_ := Aside0.mk (below_step (by repeat (first | (with_reducible first | exact HB.out | apply below_alloc | apply pw_below_drewN | apply below_drew1) | exact HB.out)) hb); clear HO_23; clear HO_24; clear HB; have HO_23 := n0_; have HO_24 := n1_; have HB := n2_; clear n0_ n1_ n2_; (try clear hb); (try clear hb2); (try clear hk); (try clear hi)) | (go_at_call 21; (with_reducible refine (billhookref01_Level.calls k1 t140 t160 _ A37.out).mono ?_); rintro e w42 ⟨rfl, hb⟩; have n0_ := Aside0.mk (Kd.R_below (by (with_reducible repeat (first | apply Kd.R_alloc | apply Kd.R_drewN | apply Kd.R_drew)); exact HO_23.out) hb); have n1_ := Aside0.mk (Kd.R_below (by (with_reducible repeat (first | apply Kd.R_alloc | apply Kd.R_drewN | apply Kd.R_drew)); exact HO_24.out) hb); have n2_ := Aside0.mk (below_step (by repeat (first | (with_reducible first | exact HB.out | apply below_alloc | apply pw_below_drewN | apply below_drew1) | exact HB.out)) hb); clear HO_23; clear HO_24; clear HB; have HO_23 := n0_; have HO_24 := n1_; have HB := n2_; clear n0_ n1_ n2_; (try clear hb); (try clear hb2); (try clear hk); (try clear hi)) | (go_at_call 22; (with_reducible refine (word_Text.calls t141 t161 _ ?side1 A39.out).mono ?_); (case side1 => exact GL.below hG (by repeat (first | (with_reducible first | exact HB.out | apply below_alloc | apply pw_below_drewN | apply below_drew1) | exact HB.out))); rintro e w43 ⟨rfl, hb⟩; have n0_ := Aside0.mk (Kd.R_below (by (with_reducible repeat (first | apply Kd.R_alloc | apply Kd.R_drewN | apply Kd.R_drew)); exact HO_23.out) hb); have n1_ := Aside0.mk (Kd.R_below (by (with_reducible repeat (first | apply Kd.R_alloc | apply Kd.R_drewN | apply Kd.R_drew)); exact HO_24.out) hb); have n2_ := Aside0.mk (below_step (by repeat (first | (with_reducible first | exact HB.out | apply below_alloc | apply pw_below_drewN | apply below_drew1) | exact HB.out)) hb); clear HO_23; clear HO_24; clear HB; have HO_23 := n0_; have HO_24 := n1_; have HB := n2_; clear n0_ n1_ n2_; (try clear hb); (try clear hb2); (try clear hk); (try clear hi)) | (go_at_call 23; (with_reducible refine (billhookref01_Text.calls k1 t141 t162 _ A40.out).mono ?_); rintro e w44 ⟨rfl, hb⟩; have n0_ := Aside0.mk (Kd.R_below (by (with_reducible repeat (first | apply Kd.R_alloc | apply Kd.R_drewN | apply Kd.R_drew)); exact HO_23.out) hb); have n1_ := Aside0.mk (Kd.R_below (by (with_reducible repeat (first | apply Kd.R_alloc | apply Kd.R_drewN | apply Kd.R_drew)); exact HO_24.out) hb); have n2_ := Aside0.mk (below_step (by repeat (first | (with_reducible first | exact HB.out | apply below_alloc | apply pw_below_drewN | apply below_drew1) | exact HB.out)) hb); clear HO_23; clear HO_24; clear HB; have HO_23 := n0_; have HO_24 := n1_; have HB := n2_; clear n0_ n1_ n2_; (try clear hb); (try clear hb2); (try clear hk); (try clear hi))))
                      go_ret
                      exact ⟨by first | rfl | exact congrArg (fun b_ => Ending.returned (.bool b_)) HTh.out | (simp [HTh.out]; done) | (simp [errW_none, errW_some] <;> rfl) | (simp [*, errW_none, errW_some] <;> rfl), by repeat (first | (with_reducible first | exact HB.out | apply below_alloc | apply pw_below_drewN | apply below_drew1) | exact HB.out)⟩
                    · rw [if_neg c38] at H
                      have c38b0 : (t159 == t160) = false := beq_eq_false_iff_ne.mpr c38
                      have c38b1 : (t159 != t160) = true := bne_iff_ne.mpr c38
                      exact absurd H (by simp)
                  · rw [if_neg c35] at H
                    have c35b0 : (t148 == t150) = false := by simpa using c35
                    (try (have c35b1 : decide (t148 = t150) = false := by simpa using c35))
                    (try (have c35b2 : (t148 == t150) = false := by simpa using c35))
                    (try (have c35b3 : ¬ (t148 = t150) := by simpa using c35))
                    clear c35
                    exact absurd H (by simp)
                · rw [if_neg c34] at H
                  have c34b0 : (t147 == t149) = false := beq_eq_false_iff_ne.mpr c34
                  have c34b1 : (t147 != t149) = true := bne_iff_ne.mpr c34
                  exact absurd H (by simp)
              · rw [if_neg c33] at H
                have c33b0 : (t144 == t146) = false := beq_eq_false_iff_ne.mpr c33
                have c33b1 : (t144 != t146) = true := bne_iff_ne.mpr c33
                exact absurd H (by simp)
            · rw [if_neg c32] at H
              have c32b0 : (t143 == t145) = false := beq_eq_false_iff_ne.mpr c32
              have c32b1 : (t143 != t145) = true := bne_iff_ne.mpr c32
              exact absurd H (by simp)
    · rw [if_neg c18] at H
      have c18b0 : ((t151.length : Int) == (t154.length : Int)) = false := beq_eq_false_iff_ne.mpr c18
      have c18b1 : ((t151.length : Int) != (t154.length : Int)) = true := bne_iff_ne.mpr c18
      have c18b2 : (t151.length == t154.length) = false := by first | simpa using c18 | (simp at c18 ⊢; omega)
      exact absurd H (by simp)
  · replace c8 := Bool.eq_false_iff.mpr c8
    subst c8
    have H1 : (some false) = some true := by rw [if_neg (show ¬ (false = true) by decide)] at H; exact H
    clear H
    have H := H1
    clear H1
    exact absurd H (by simp)

/-- THE ONE PURE STATEMENT of billhooklaw01_WordTells: yours. -/
def billhooklaw01_WordTells.Pure : Prop := ∀ (a0 : ByteArray) (a1 : Int) (a2 : Int) (a3 : Int) (a4 : Int) (a5 : Int), a0.size ≤ 140737488351232 → (Lit.int .u8 a1).wf = true → (Lit.int .i64 a2).wf = true → (Lit.int .i64 a3).wf = true → (Lit.int .u8 a4).wf = true → (Lit.int .u8 a5).wf = true → ∃ k, billhooklaw01_WordTells.f k a0 a1 a2 a3 a4 a5 = some true
theorem billhooklaw01_WordTells.walk (P : billhooklaw01_WordTells.Pure) (a0 : ByteArray) (a1 : Int) (a2 : Int) (a3 : Int) (a4 : Int) (a5 : Int) (w : World) (hG : GL w) (w0 : a0.size ≤ 140737488351232) (w1 : (Lit.int .u8 a1).wf = true) (w2 : (Lit.int .i64 a2).wf = true) (w3 : (Lit.int .i64 a3).wf = true) (w4 : (Lit.int .u8 a4).wf = true) (w5 : (Lit.int .u8 a5).wf = true) :
    Calls Tryd.prog 3 #[.string a0, .int .u8 a1, .int .i64 a2, .int .i64 a3, .int .u8 a4, .int .u8 a5] w fun e w' => e = .returned (.bool true) ∧ Below w.heap.size w w' := by
  obtain ⟨k, h⟩ := P a0 a1 a2 a3 a4 a5 w0 w1 w2 w3 w4 w5
  refine (billhooklaw01_WordTells.calls k a0 a1 a2 a3 a4 a5 w hG h).mono ?_
  rintro e w' ⟨rfl, hd⟩
  exact ⟨rfl, hd⟩

/-! ### billhooklaw01_do: function 24 -/
def billhooklaw01_do.f (a0 : ByteArray) (a1 : Int) (a2 : Int) : Option (Int) := (word_Binary.f a0 a1 a2).bind fun bt163 => (some bt163.1)
set_option maxHeartbeats 8000000 in
set_option maxRecDepth 100000 in
theorem billhooklaw01_do.calls (a0 : ByteArray) (a1 : Int) (a2 : Int) (r : Int) (w : World) (h : billhooklaw01_do.f a0 a1 a2 = some r) :
    Calls Tryd.prog 24 #[.string a0, .int .i64 a1, .int .i64 a2] w fun e w' => e = .returned (.int .i64 r) ∧ Below w.heap.size w w' := by
  have HB := Aside0.mk (Below.refl w.heap.size w)
  have H : ((word_Binary.f a0 a1 a2).bind fun bt163 => (some bt163.1)) = some r := h
  clear h
  replace H := Option.bind_eq_some_iff.mp H
  obtain ⟨⟨t163, t164⟩, A40, H⟩ := H
  replace H : (some t163) = some r := H
  have A4 := Aside0.mk A40
  clear A40
  obtain rfl := Option.some.inj H
  go_enter Tryd.func24, Tryd.ntmps24
  go_wp2_with (first | ((with_reducible refine gate_callee (f := 14) rfl ?_); refine goesL_ (some 13) rfl rfl Tryd.func14 (by kernel_rfl) rfl #[.string a0, .int .i64 a1, .int .i64 a2] rfl (by (try simp only [List.map_toArray, List.map_cons, List.map_nil]); first | done | rfl | (simp only [List.length_drop, List.length_take]; rfl)) ?_; (with_reducible refine (word_Binary.calls a0 a1 a2 t163 t164 _ A4.out).mono ?_); rintro e w5 ⟨rfl, hb⟩; refine ⟨_, rfl, ?_⟩; have n0_ := Aside0.mk (below_step (by repeat (first | (with_reducible first | exact HB.out | apply below_alloc | apply pw_below_drewN | apply below_drew1) | exact HB.out)) hb); clear HB; have HB := n0_; clear n0_; (try clear hb); (try clear hb2); (try clear hk); (try clear hi)))
  go_ret
  exact ⟨by first | rfl | (simp [errW_none, errW_some] <;> rfl) | (simp [*, errW_none, errW_some] <;> rfl), by repeat (first | (with_reducible first | exact HB.out | apply below_alloc | apply pw_below_drewN | apply below_drew1) | exact HB.out)⟩

end Go.Proofs.YtlkabncoaijepaaDoor.PAll
