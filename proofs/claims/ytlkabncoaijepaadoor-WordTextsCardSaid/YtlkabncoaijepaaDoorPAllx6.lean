-- PRINTED by print.py (a twelfth state) out of the translation. Not trusted: Lean checks it.
import Derived.Test.YtlkabncoaijepaaDoorPAllx0
import Derived.Test.YtlkabncoaijepaaDoorPAllx1
import Derived.Test.YtlkabncoaijepaaDoorPAllx5
import Derived.Test.YtlkabncoaijepaaDoorExtEx
namespace Go.Proofs.YtlkabncoaijepaaDoor.PAll
open Go.RowKit Go.Proofs.YtlkabncoaijepaaDoorW.PrintWords Go.Proofs.YtlkabncoaijepaaDoorW.PrintLast Go.Proofs.YtlkabncoaijepaaDoorW.PrintMore
attribute [local go_sem] max2_int min2_int max_two min_two max_three min_three max_four min_four   -- for this text's walks alone
set_option linter.unusedVariables false
set_option linter.unusedSimpArgs false

open Go.Proofs.YtlkabncoaijepaaDoor.X
/-! ### billhooklaw01_WordDivides: function 4 -/
def billhooklaw01_WordDivides.f (a0 : Int) (a1 : Int) (a2 : Int) (a3 : Int) : Option (Bool) := (billhooklaw01_examples.f).bind fun t165 => (if t165 = true then ((billhooklaw01_near.f a0 a2).bind fun t166 => ((billhooklaw01_near.f a1 a3).bind fun t167 => ((word_Binary.f (⟨#[47]⟩ : ByteArray) t166 t167).bind fun bt168 => ((word_Binary.f (⟨#[37]⟩ : ByteArray) t166 t167).bind fun bt170 => (if t167 = 0 then (if bt168.2 = 1 then (if bt170.2 = 1 then (if bt168.1 = 0 then (some (bt170.1 == 0)) else (some false)) else (some false)) else (some false)) else (if bt170.1 = 0 then (if bt168.2 = 0 then (if bt170.2 = 0 then ((billhooklaw01_do.f (⟨#[42]⟩ : ByteArray) bt168.1 t167).bind fun t172 => ((billhooklaw01_do.f (⟨#[43]⟩ : ByteArray) t172 bt170.1).bind fun t173 => (if t173 = t166 then (some true) else (some false)))) else (some false)) else (some false)) else (if ((decide (bt170.1 > 0)) == (decide (t166 > 0))) = true then (if t167 = (-9223372036854775808) then (if bt168.2 = 0 then (if bt170.2 = 0 then ((billhooklaw01_do.f (⟨#[42]⟩ : ByteArray) bt168.1 t167).bind fun t174 => ((billhooklaw01_do.f (⟨#[43]⟩ : ByteArray) t174 bt170.1).bind fun t175 => (if t175 = t166 then (some true) else (some false)))) else (some false)) else (some false)) else ((billhooklaw01_do.f (⟨#[60]⟩ : ByteArray) (mx bt170.1 (wrap64 (-bt170.1))) (mx t167 (wrap64 (-t167)))).bind fun t176 => (if bt168.2 = 0 then (if bt170.2 = 0 then ((billhooklaw01_do.f (⟨#[42]⟩ : ByteArray) bt168.1 t167).bind fun t177 => ((billhooklaw01_do.f (⟨#[43]⟩ : ByteArray) t177 bt170.1).bind fun t178 => (if t178 = t166 then (some (t176 == 1)) else (some false)))) else (some false)) else (some false)))) else (if bt168.2 = 0 then (if bt170.2 = 0 then ((billhooklaw01_do.f (⟨#[42]⟩ : ByteArray) bt168.1 t167).bind fun t179 => ((billhooklaw01_do.f (⟨#[43]⟩ : ByteArray) t179 bt170.1).bind fun t180 => (if t180 = t166 then (some false) else (some false)))) else (some false)) else (some false))))))))) else (some false))
set_option maxHeartbeats 8000000 in
set_option maxRecDepth 100000 in
theorem billhooklaw01_WordDivides.calls (a0 : Int) (a1 : Int) (a2 : Int) (a3 : Int) (w : World) (hG : GL w) (h : billhooklaw01_WordDivides.f a0 a1 a2 a3 = some true) :
    Calls Tryd.prog 4 #[.int .i64 a0, .int .i64 a1, .int .u8 a2, .int .u8 a3] w fun e w' => e = .returned (.bool true) ∧ Below w.heap.size w w' := by
  have HB := Aside0.mk (Below.refl w.heap.size w)
  have H : ((billhooklaw01_examples.f).bind fun t165 => (if t165 = true then ((billhooklaw01_near.f a0 a2).bind fun t166 => ((billhooklaw01_near.f a1 a3).bind fun t167 => ((word_Binary.f (⟨#[47]⟩ : ByteArray) t166 t167).bind fun bt168 => ((word_Binary.f (⟨#[37]⟩ : ByteArray) t166 t167).bind fun bt170 => (if t167 = 0 then (if bt168.2 = 1 then (if bt170.2 = 1 then (if bt168.1 = 0 then (some (bt170.1 == 0)) else (some false)) else (some false)) else (some false)) else (if bt170.1 = 0 then (if bt168.2 = 0 then (if bt170.2 = 0 then ((billhooklaw01_do.f (⟨#[42]⟩ : ByteArray) bt168.1 t167).bind fun t172 => ((billhooklaw01_do.f (⟨#[43]⟩ : ByteArray) t172 bt170.1).bind fun t173 => (if t173 = t166 then (some true) else (some false)))) else (some false)) else (some false)) else (if ((decide (bt170.1 > 0)) == (decide (t166 > 0))) = true then (if t167 = (-9223372036854775808) then (if bt168.2 = 0 then (if bt170.2 = 0 then ((billhooklaw01_do.f (⟨#[42]⟩ : ByteArray) bt168.1 t167).bind fun t174 => ((billhooklaw01_do.f (⟨#[43]⟩ : ByteArray) t174 bt170.1).bind fun t175 => (if t175 = t166 then (some true) else (some false)))) else (some false)) else (some false)) else ((billhooklaw01_do.f (⟨#[60]⟩ : ByteArray) (mx bt170.1 (wrap64 (-bt170.1))) (mx t167 (wrap64 (-t167)))).bind fun t176 => (if bt168.2 = 0 then (if bt170.2 = 0 then ((billhooklaw01_do.f (⟨#[42]⟩ : ByteArray) bt168.1 t167).bind fun t177 => ((billhooklaw01_do.f (⟨#[43]⟩ : ByteArray) t177 bt170.1).bind fun t178 => (if t178 = t166 then (some (t176 == 1)) else (some false)))) else (some false)) else (some false)))) else (if bt168.2 = 0 then (if bt170.2 = 0 then ((billhooklaw01_do.f (⟨#[42]⟩ : ByteArray) bt168.1 t167).bind fun t179 => ((billhooklaw01_do.f (⟨#[43]⟩ : ByteArray) t179 bt170.1).bind fun t180 => (if t180 = t166 then (some false) else (some false)))) else (some false)) else (some false))))))))) else (some false))) = some true := h
  clear h
  replace H := Option.bind_eq_some_iff.mp H
  obtain ⟨t165, A50, H⟩ := H
  replace H : (if t165 = true then ((billhooklaw01_near.f a0 a2).bind fun t166 => ((billhooklaw01_near.f a1 a3).bind fun t167 => ((word_Binary.f (⟨#[47]⟩ : ByteArray) t166 t167).bind fun bt168 => ((word_Binary.f (⟨#[37]⟩ : ByteArray) t166 t167).bind fun bt170 => (if t167 = 0 then (if bt168.2 = 1 then (if bt170.2 = 1 then (if bt168.1 = 0 then (some (bt170.1 == 0)) else (some false)) else (some false)) else (some false)) else (if bt170.1 = 0 then (if bt168.2 = 0 then (if bt170.2 = 0 then ((billhooklaw01_do.f (⟨#[42]⟩ : ByteArray) bt168.1 t167).bind fun t172 => ((billhooklaw01_do.f (⟨#[43]⟩ : ByteArray) t172 bt170.1).bind fun t173 => (if t173 = t166 then (some true) else (some false)))) else (some false)) else (some false)) else (if ((decide (bt170.1 > 0)) == (decide (t166 > 0))) = true then (if t167 = (-9223372036854775808) then (if bt168.2 = 0 then (if bt170.2 = 0 then ((billhooklaw01_do.f (⟨#[42]⟩ : ByteArray) bt168.1 t167).bind fun t174 => ((billhooklaw01_do.f (⟨#[43]⟩ : ByteArray) t174 bt170.1).bind fun t175 => (if t175 = t166 then (some true) else (some false)))) else (some false)) else (some false)) else ((billhooklaw01_do.f (⟨#[60]⟩ : ByteArray) (mx bt170.1 (wrap64 (-bt170.1))) (mx t167 (wrap64 (-t167)))).bind fun t176 => (if bt168.2 = 0 then (if bt170.2 = 0 then ((billhooklaw01_do.f (⟨#[42]⟩ : ByteArray) bt168.1 t167).bind fun t177 => ((billhooklaw01_do.f (⟨#[43]⟩ : ByteArray) t177 bt170.1).bind fun t178 => (if t178 = t166 then (some (t176 == 1)) else (some false)))) else (some false)) else (some false)))) else (if bt168.2 = 0 then (if bt170.2 = 0 then ((billhooklaw01_do.f (⟨#[42]⟩ : ByteArray) bt168.1 t167).bind fun t179 => ((billhooklaw01_do.f (⟨#[43]⟩ : ByteArray) t179 bt170.1).bind fun t180 => (if t180 = t166 then (some false) else (some false)))) else (some false)) else (some false))))))))) else (some false)) = some true := H
  have A5 := Aside0.mk A50
  clear A50
  by_cases c6 : t165 = true
  · subst c6
    have H1 : ((billhooklaw01_near.f a0 a2).bind fun t166 => ((billhooklaw01_near.f a1 a3).bind fun t167 => ((word_Binary.f (⟨#[47]⟩ : ByteArray) t166 t167).bind fun bt168 => ((word_Binary.f (⟨#[37]⟩ : ByteArray) t166 t167).bind fun bt170 => (if t167 = 0 then (if bt168.2 = 1 then (if bt170.2 = 1 then (if bt168.1 = 0 then (some (bt170.1 == 0)) else (some false)) else (some false)) else (some false)) else (if bt170.1 = 0 then (if bt168.2 = 0 then (if bt170.2 = 0 then ((billhooklaw01_do.f (⟨#[42]⟩ : ByteArray) bt168.1 t167).bind fun t172 => ((billhooklaw01_do.f (⟨#[43]⟩ : ByteArray) t172 bt170.1).bind fun t173 => (if t173 = t166 then (some true) else (some false)))) else (some false)) else (some false)) else (if ((decide (bt170.1 > 0)) == (decide (t166 > 0))) = true then (if t167 = (-9223372036854775808) then (if bt168.2 = 0 then (if bt170.2 = 0 then ((billhooklaw01_do.f (⟨#[42]⟩ : ByteArray) bt168.1 t167).bind fun t174 => ((billhooklaw01_do.f (⟨#[43]⟩ : ByteArray) t174 bt170.1).bind fun t175 => (if t175 = t166 then (some true) else (some false)))) else (some false)) else (some false)) else ((billhooklaw01_do.f (⟨#[60]⟩ : ByteArray) (mx bt170.1 (wrap64 (-bt170.1))) (mx t167 (wrap64 (-t167)))).bind fun t176 => (if bt168.2 = 0 then (if bt170.2 = 0 then ((billhooklaw01_do.f (⟨#[42]⟩ : ByteArray) bt168.1 t167).bind fun t177 => ((billhooklaw01_do.f (⟨#[43]⟩ : ByteArray) t177 bt170.1).bind fun t178 => (if t178 = t166 then (some (t176 == 1)) else (some false)))) else (some false)) else (some false)))) else (if bt168.2 = 0 then (if bt170.2 = 0 then ((billhooklaw01_do.f (⟨#[42]⟩ : ByteArray) bt168.1 t167).bind fun t179 => ((billhooklaw01_do.f (⟨#[43]⟩ : ByteArray) t179 bt170.1).bind fun t180 => (if t180 = t166 then (some false) else (some false)))) else (some false)) else (some false))))))))) = some true := by rw [if_pos rfl] at H; exact H
    clear H
    have H := H1
    clear H1
    replace H := Option.bind_eq_some_iff.mp H
    obtain ⟨t166, A70, H⟩ := H
    replace H : ((billhooklaw01_near.f a1 a3).bind fun t167 => ((word_Binary.f (⟨#[47]⟩ : ByteArray) t166 t167).bind fun bt168 => ((word_Binary.f (⟨#[37]⟩ : ByteArray) t166 t167).bind fun bt170 => (if t167 = 0 then (if bt168.2 = 1 then (if bt170.2 = 1 then (if bt168.1 = 0 then (some (bt170.1 == 0)) else (some false)) else (some false)) else (some false)) else (if bt170.1 = 0 then (if bt168.2 = 0 then (if bt170.2 = 0 then ((billhooklaw01_do.f (⟨#[42]⟩ : ByteArray) bt168.1 t167).bind fun t172 => ((billhooklaw01_do.f (⟨#[43]⟩ : ByteArray) t172 bt170.1).bind fun t173 => (if t173 = t166 then (some true) else (some false)))) else (some false)) else (some false)) else (if ((decide (bt170.1 > 0)) == (decide (t166 > 0))) = true then (if t167 = (-9223372036854775808) then (if bt168.2 = 0 then (if bt170.2 = 0 then ((billhooklaw01_do.f (⟨#[42]⟩ : ByteArray) bt168.1 t167).bind fun t174 => ((billhooklaw01_do.f (⟨#[43]⟩ : ByteArray) t174 bt170.1).bind fun t175 => (if t175 = t166 then (some true) else (some false)))) else (some false)) else (some false)) else ((billhooklaw01_do.f (⟨#[60]⟩ : ByteArray) (mx bt170.1 (wrap64 (-bt170.1))) (mx t167 (wrap64 (-t167)))).bind fun t176 => (if bt168.2 = 0 then (if bt170.2 = 0 then ((billhooklaw01_do.f (⟨#[42]⟩ : ByteArray) bt168.1 t167).bind fun t177 => ((billhooklaw01_do.f (⟨#[43]⟩ : ByteArray) t177 bt170.1).bind fun t178 => (if t178 = t166 then (some (t176 == 1)) else (some false)))) else (some false)) else (some false)))) else (if bt168.2 = 0 then (if bt170.2 = 0 then ((billhooklaw01_do.f (⟨#[42]⟩ : ByteArray) bt168.1 t167).bind fun t179 => ((billhooklaw01_do.f (⟨#[43]⟩ : ByteArray) t179 bt170.1).bind fun t180 => (if t180 = t166 then (some false) else (some false)))) else (some false)) else (some false)))))))) = some true := H
    have A7 := Aside0.mk A70
    clear A70
    replace H := Option.bind_eq_some_iff.mp H
    obtain ⟨t167, A80, H⟩ := H
    replace H : ((word_Binary.f (⟨#[47]⟩ : ByteArray) t166 t167).bind fun bt168 => ((word_Binary.f (⟨#[37]⟩ : ByteArray) t166 t167).bind fun bt170 => (if t167 = 0 then (if bt168.2 = 1 then (if bt170.2 = 1 then (if bt168.1 = 0 then (some (bt170.1 == 0)) else (some false)) else (some false)) else (some false)) else (if bt170.1 = 0 then (if bt168.2 = 0 then (if bt170.2 = 0 then ((billhooklaw01_do.f (⟨#[42]⟩ : ByteArray) bt168.1 t167).bind fun t172 => ((billhooklaw01_do.f (⟨#[43]⟩ : ByteArray) t172 bt170.1).bind fun t173 => (if t173 = t166 then (some true) else (some false)))) else (some false)) else (some false)) else (if ((decide (bt170.1 > 0)) == (decide (t166 > 0))) = true then (if t167 = (-9223372036854775808) then (if bt168.2 = 0 then (if bt170.2 = 0 then ((billhooklaw01_do.f (⟨#[42]⟩ : ByteArray) bt168.1 t167).bind fun t174 => ((billhooklaw01_do.f (⟨#[43]⟩ : ByteArray) t174 bt170.1).bind fun t175 => (if t175 = t166 then (some true) else (some false)))) else (some false)) else (some false)) else ((billhooklaw01_do.f (⟨#[60]⟩ : ByteArray) (mx bt170.1 (wrap64 (-bt170.1))) (mx t167 (wrap64 (-t167)))).bind fun t176 => (if bt168.2 = 0 then (if bt170.2 = 0 then ((billhooklaw01_do.f (⟨#[42]⟩ : ByteArray) bt168.1 t167).bind fun t177 => ((billhooklaw01_do.f (⟨#[43]⟩ : ByteArray) t177 bt170.1).bind fun t178 => (if t178 = t166 then (some (t176 == 1)) else (some false)))) else (some false)) else (some false)))) else (if bt168.2 = 0 then (if bt170.2 = 0 then ((billhooklaw01_do.f (⟨#[42]⟩ : ByteArray) bt168.1 t167).bind fun t179 => ((billhooklaw01_do.f (⟨#[43]⟩ : ByteArray) t179 bt170.1).bind fun t180 => (if t180 = t166 then (some false) else (some false)))) else (some false)) else (some false))))))) = some true := H
    have A8 := Aside0.mk A80
    clear A80
    replace H := Option.bind_eq_some_iff.mp H
    obtain ⟨⟨t168, t169⟩, A90, H⟩ := H
    replace H : ((word_Binary.f (⟨#[37]⟩ : ByteArray) t166 t167).bind fun bt170 => (if t167 = 0 then (if t169 = 1 then (if bt170.2 = 1 then (if t168 = 0 then (some (bt170.1 == 0)) else (some false)) else (some false)) else (some false)) else (if bt170.1 = 0 then (if t169 = 0 then (if bt170.2 = 0 then ((billhooklaw01_do.f (⟨#[42]⟩ : ByteArray) t168 t167).bind fun t172 => ((billhooklaw01_do.f (⟨#[43]⟩ : ByteArray) t172 bt170.1).bind fun t173 => (if t173 = t166 then (some true) else (some false)))) else (some false)) else (some false)) else (if ((decide (bt170.1 > 0)) == (decide (t166 > 0))) = true then (if t167 = (-9223372036854775808) then (if t169 = 0 then (if bt170.2 = 0 then ((billhooklaw01_do.f (⟨#[42]⟩ : ByteArray) t168 t167).bind fun t174 => ((billhooklaw01_do.f (⟨#[43]⟩ : ByteArray) t174 bt170.1).bind fun t175 => (if t175 = t166 then (some true) else (some false)))) else (some false)) else (some false)) else ((billhooklaw01_do.f (⟨#[60]⟩ : ByteArray) (mx bt170.1 (wrap64 (-bt170.1))) (mx t167 (wrap64 (-t167)))).bind fun t176 => (if t169 = 0 then (if bt170.2 = 0 then ((billhooklaw01_do.f (⟨#[42]⟩ : ByteArray) t168 t167).bind fun t177 => ((billhooklaw01_do.f (⟨#[43]⟩ : ByteArray) t177 bt170.1).bind fun t178 => (if t178 = t166 then (some (t176 == 1)) else (some false)))) else (some false)) else (some false)))) else (if t169 = 0 then (if bt170.2 = 0 then ((billhooklaw01_do.f (⟨#[42]⟩ : ByteArray) t168 t167).bind fun t179 => ((billhooklaw01_do.f (⟨#[43]⟩ : ByteArray) t179 bt170.1).bind fun t180 => (if t180 = t166 then (some false) else (some false)))) else (some false)) else (some false)))))) = some true := H
    have A9 := Aside0.mk A90
    clear A90
    replace H := Option.bind_eq_some_iff.mp H
    obtain ⟨⟨t170, t171⟩, A100, H⟩ := H
    replace H : (if t167 = 0 then (if t169 = 1 then (if t171 = 1 then (if t168 = 0 then (some (t170 == 0)) else (some false)) else (some false)) else (some false)) else (if t170 = 0 then (if t169 = 0 then (if t171 = 0 then ((billhooklaw01_do.f (⟨#[42]⟩ : ByteArray) t168 t167).bind fun t172 => ((billhooklaw01_do.f (⟨#[43]⟩ : ByteArray) t172 t170).bind fun t173 => (if t173 = t166 then (some true) else (some false)))) else (some false)) else (some false)) else (if ((decide (t170 > 0)) == (decide (t166 > 0))) = true then (if t167 = (-9223372036854775808) then (if t169 = 0 then (if t171 = 0 then ((billhooklaw01_do.f (⟨#[42]⟩ : ByteArray) t168 t167).bind fun t174 => ((billhooklaw01_do.f (⟨#[43]⟩ : ByteArray) t174 t170).bind fun t175 => (if t175 = t166 then (some true) else (some false)))) else (some false)) else (some false)) else ((billhooklaw01_do.f (⟨#[60]⟩ : ByteArray) (mx t170 (wrap64 (-t170))) (mx t167 (wrap64 (-t167)))).bind fun t176 => (if t169 = 0 then (if t171 = 0 then ((billhooklaw01_do.f (⟨#[42]⟩ : ByteArray) t168 t167).bind fun t177 => ((billhooklaw01_do.f (⟨#[43]⟩ : ByteArray) t177 t170).bind fun t178 => (if t178 = t166 then (some (t176 == 1)) else (some false)))) else (some false)) else (some false)))) else (if t169 = 0 then (if t171 = 0 then ((billhooklaw01_do.f (⟨#[42]⟩ : ByteArray) t168 t167).bind fun t179 => ((billhooklaw01_do.f (⟨#[43]⟩ : ByteArray) t179 t170).bind fun t180 => (if t180 = t166 then (some false) else (some false)))) else (some false)) else (some false))))) = some true := H
    have A10 := Aside0.mk A100
    clear A100
    by_cases c11 : t167 = 0
    · rw [if_pos c11] at H
      have c11b0 : (t167 == 0) = true := beq_iff_eq.mpr c11
      have c11b1 : (t167 != 0) = false := bne_eq_false_iff_eq.mpr c11
      clear c11
      by_cases c12 : t169 = 1
      · rw [if_pos c12] at H
        have c12b0 : (t169 == 1) = true := beq_iff_eq.mpr c12
        have c12b1 : (t169 != 1) = false := bne_eq_false_iff_eq.mpr c12
        clear c12
        by_cases c13 : t171 = 1
        · rw [if_pos c13] at H
          have c13b0 : (t171 == 1) = true := beq_iff_eq.mpr c13
          have c13b1 : (t171 != 1) = false := bne_eq_false_iff_eq.mpr c13
          clear c13
          by_cases c14 : t168 = 0
          · rw [if_pos c14] at H
            have c14b0 : (t168 == 0) = true := beq_iff_eq.mpr c14
            have c14b1 : (t168 != 0) = false := bne_eq_false_iff_eq.mpr c14
            clear c14
            have HTh := Aside0.mk (Option.some.inj H)
            clear H
            go_enter Tryd.func4, Tryd.ntmps4
            go_wp2_with (first | ((with_reducible refine gate_callee (f := 11) rfl ?_); refine goesL_ (some 15) rfl rfl Tryd.func11 (by kernel_rfl) rfl #[] rfl (by (try simp only [List.map_toArray, List.map_cons, List.map_nil]); first | done | rfl | (simp only [List.length_drop, List.length_take]; rfl)) ?_; (with_reducible refine (billhooklaw01_examples.calls  true _ ?side1 A5.out).mono ?_); (case side1 => exact GL.below hG (by repeat (first | (with_reducible first | exact HB.out | apply below_alloc | apply pw_below_drewN | apply below_drew1) | exact HB.out))); rintro e w15 ⟨rfl, hb⟩; refine ⟨_, rfl, ?_⟩; have n0_ := Aside0.mk (below_step (by repeat (first | (with_reducible first | exact HB.out | apply below_alloc | apply pw_below_drewN | apply below_drew1) | exact HB.out)) hb); clear HB; have HB := n0_; clear n0_; (try clear hb); (try clear hb2); (try clear hk); (try clear hi)) | ((with_reducible refine gate_callee (f := 13) rfl ?_); refine goesL_ (some 20) rfl rfl Tryd.func13 (by kernel_rfl) rfl #[.int .i64 a0, .int .u8 a2] rfl (by (try simp only [List.map_toArray, List.map_cons, List.map_nil]); first | done | rfl | (simp only [List.length_drop, List.length_take]; rfl)) ?_; (with_reducible refine (billhooklaw01_near.calls a0 a2 t166 _ A7.out).mono ?_); rintro e w16 ⟨rfl, hb⟩; refine ⟨_, rfl, ?_⟩; have n0_ := Aside0.mk (below_step (by repeat (first | (with_reducible first | exact HB.out | apply below_alloc | apply pw_below_drewN | apply below_drew1) | exact HB.out)) hb); clear HB; have HB := n0_; clear n0_; (try clear hb); (try clear hb2); (try clear hk); (try clear hi)) | ((with_reducible refine gate_callee (f := 13) rfl ?_); refine goesL_ (some 23) rfl rfl Tryd.func13 (by kernel_rfl) rfl #[.int .i64 a1, .int .u8 a3] rfl (by (try simp only [List.map_toArray, List.map_cons, List.map_nil]); first | done | rfl | (simp only [List.length_drop, List.length_take]; rfl)) ?_; (with_reducible refine (billhooklaw01_near.calls a1 a3 t167 _ A8.out).mono ?_); rintro e w17 ⟨rfl, hb⟩; refine ⟨_, rfl, ?_⟩; have n0_ := Aside0.mk (below_step (by repeat (first | (with_reducible first | exact HB.out | apply below_alloc | apply pw_below_drewN | apply below_drew1) | exact HB.out)) hb); clear HB; have HB := n0_; clear n0_; (try clear hb); (try clear hb2); (try clear hk); (try clear hi)) | ((with_reducible refine gate_callee (f := 14) rfl ?_); refine goesL_ (some 27) rfl rfl Tryd.func14 (by kernel_rfl) rfl #[.string (⟨#[47]⟩ : ByteArray), .int .i64 t166, .int .i64 t167] rfl (by (try simp only [List.map_toArray, List.map_cons, List.map_nil]); first | done | rfl | (simp only [List.length_drop, List.length_take]; rfl)) ?_; (with_reducible refine (word_Binary.calls (⟨#[47]⟩ : ByteArray) t166 t167 t168 t169 _ A9.out).mono ?_); rintro e w18 ⟨rfl, hb⟩; refine ⟨_, rfl, ?_⟩; have n0_ := Aside0.mk (below_step (by repeat (first | (with_reducible first | exact HB.out | apply below_alloc | apply pw_below_drewN | apply below_drew1) | exact HB.out)) hb); clear HB; have HB := n0_; clear n0_; (try clear hb); (try clear hb2); (try clear hk); (try clear hi)) | ((with_reducible refine gate_callee (f := 14) rfl ?_); refine goesL_ (some 33) rfl rfl Tryd.func14 (by kernel_rfl) rfl #[.string (⟨#[37]⟩ : ByteArray), .int .i64 t166, .int .i64 t167] rfl (by (try simp only [List.map_toArray, List.map_cons, List.map_nil]); first | done | rfl | (simp only [List.length_drop, List.length_take]; rfl)) ?_; (with_reducible refine (word_Binary.calls (⟨#[37]⟩ : ByteArray) t166 t167 t170 t171 _ A10.out).mono ?_); rintro e w19 ⟨rfl, hb⟩; refine ⟨_, rfl, ?_⟩; have n0_ := Aside0.mk (below_step (by repeat (first | (with_reducible first | exact HB.out | apply below_alloc | apply pw_below_drewN | apply below_drew1) | exact HB.out)) hb); clear HB; have HB := n0_; clear n0_; (try clear hb); (try clear hb2); (try clear hk); (try clear hi)))
            go_ret
            exact ⟨by first | rfl | exact congrArg (fun b_ => Ending.returned (.bool b_)) HTh.out | (simp [HTh.out]; done) | (simp [errW_none, errW_some] <;> rfl) | (simp [*, errW_none, errW_some] <;> rfl), by repeat (first | (with_reducible first | exact HB.out | apply below_alloc | apply pw_below_drewN | apply below_drew1) | exact HB.out)⟩
          · rw [if_neg c14] at H
            have c14b0 : (t168 == 0) = false := beq_eq_false_iff_ne.mpr c14
            have c14b1 : (t168 != 0) = true := bne_iff_ne.mpr c14
            exact absurd H (by simp)
        · rw [if_neg c13] at H
          have c13b0 : (t171 == 1) = false := beq_eq_false_iff_ne.mpr c13
          have c13b1 : (t171 != 1) = true := bne_iff_ne.mpr c13
          exact absurd H (by simp)
      · rw [if_neg c12] at H
        have c12b0 : (t169 == 1) = false := beq_eq_false_iff_ne.mpr c12
        have c12b1 : (t169 != 1) = true := bne_iff_ne.mpr c12
        exact absurd H (by simp)
    · rw [if_neg c11] at H
      have c11b0 : (t167 == 0) = false := beq_eq_false_iff_ne.mpr c11
      have c11b1 : (t167 != 0) = true := bne_iff_ne.mpr c11
      by_cases c20 : t170 = 0
      · rw [if_pos c20] at H
        have c20b0 : (t170 == 0) = true := beq_iff_eq.mpr c20
        have c20b1 : (t170 != 0) = false := bne_eq_false_iff_eq.mpr c20
        clear c20
        by_cases c21 : t169 = 0
        · rw [if_pos c21] at H
          have c21b0 : (t169 == 0) = true := beq_iff_eq.mpr c21
          have c21b1 : (t169 != 0) = false := bne_eq_false_iff_eq.mpr c21
          clear c21
          by_cases c22 : t171 = 0
          · rw [if_pos c22] at H
            have c22b0 : (t171 == 0) = true := beq_iff_eq.mpr c22
            have c22b1 : (t171 != 0) = false := bne_eq_false_iff_eq.mpr c22
            clear c22
            replace H := Option.bind_eq_some_iff.mp H
            obtain ⟨t172, A230, H⟩ := H
            replace H : ((billhooklaw01_do.f (⟨#[43]⟩ : ByteArray) t172 t170).bind fun t173 => (if t173 = t166 then (some true) else (some false))) = some true := H
            have A23 := Aside0.mk A230
            clear A230
            replace H := Option.bind_eq_some_iff.mp H
            obtain ⟨t173, A240, H⟩ := H
            replace H : (if t173 = t166 then (some true) else (some false)) = some true := H
            have A24 := Aside0.mk A240
            clear A240
            by_cases c25 : t173 = t166
            · rw [if_pos c25] at H
              have c25b0 : (t173 == t166) = true := beq_iff_eq.mpr c25
              have c25b1 : (t173 != t166) = false := bne_eq_false_iff_eq.mpr c25
              clear c25
              have HTh := Aside0.mk (Option.some.inj H)
              clear H
              go_enter Tryd.func4, Tryd.ntmps4
              go_wp2_with (first | ((with_reducible refine gate_callee (f := 11) rfl ?_); refine goesL_ (some 15) rfl rfl Tryd.func11 (by kernel_rfl) rfl #[] rfl (by (try simp only [List.map_toArray, List.map_cons, List.map_nil]); first | done | rfl | (simp only [List.length_drop, List.length_take]; rfl)) ?_; (with_reducible refine (billhooklaw01_examples.calls  true _ ?side1 A5.out).mono ?_); (case side1 => exact GL.below hG (by repeat (first | (with_reducible first | exact HB.out | apply below_alloc | apply pw_below_drewN | apply below_drew1) | exact HB.out))); rintro e w26 ⟨rfl, hb⟩; refine ⟨_, rfl, ?_⟩; have n0_ := Aside0.mk (below_step (by repeat (first | (with_reducible first | exact HB.out | apply below_alloc | apply pw_below_drewN | apply below_drew1) | exact HB.out)) hb); clear HB; have HB := n0_; clear n0_; (try clear hb); (try clear hb2); (try clear hk); (try clear hi)) | ((with_reducible refine gate_callee (f := 13) rfl ?_); refine goesL_ (some 20) rfl rfl Tryd.func13 (by kernel_rfl) rfl #[.int .i64 a0, .int .u8 a2] rfl (by (try simp only [List.map_toArray, List.map_cons, List.map_nil]); first | done | rfl | (simp only [List.length_drop, List.length_take]; rfl)) ?_; (with_reducible refine (billhooklaw01_near.calls a0 a2 t166 _ A7.out).mono ?_); rintro e w27 ⟨rfl, hb⟩; refine ⟨_, rfl, ?_⟩; have n0_ := Aside0.mk (below_step (by repeat (first | (with_reducible first | exact HB.out | apply below_alloc | apply pw_below_drewN | apply below_drew1) | exact HB.out)) hb); clear HB; have HB := n0_; clear n0_; (try clear hb); (try clear hb2); (try clear hk); (try clear hi)) | ((with_reducible refine gate_callee (f := 13) rfl ?_); refine goesL_ (some 23) rfl rfl Tryd.func13 (by kernel_rfl) rfl #[.int .i64 a1, .int .u8 a3] rfl (by (try simp only [List.map_toArray, List.map_cons, List.map_nil]); first | done | rfl | (simp only [List.length_drop, List.length_take]; rfl)) ?_; (with_reducible refine (billhooklaw01_near.calls a1 a3 t167 _ A8.out).mono ?_); rintro e w28 ⟨rfl, hb⟩; refine ⟨_, rfl, ?_⟩; have n0_ := Aside0.mk (below_step (by repeat (first | (with_reducible first | exact HB.out | apply below_alloc | apply pw_below_drewN | apply below_drew1) | exact HB.out)) hb); clear HB; have HB := n0_; clear n0_; (try clear hb); (try clear hb2); (try clear hk); (try clear hi)) | ((with_reducible refine gate_callee (f := 14) rfl ?_); refine goesL_ (some 27) rfl rfl Tryd.func14 (by kernel_rfl) rfl #[.string (⟨#[47]⟩ : ByteArray), .int .i64 t166, .int .i64 t167] rfl (by (try simp only [List.map_toArray, List.map_cons, List.map_nil]); first | done | rfl | (simp only [List.length_drop, List.length_take]; rfl)) ?_; (with_reducible refine (word_Binary.calls (⟨#[47]⟩ : ByteArray) t166 t167 t168 t169 _ A9.out).mono ?_); rintro e w29 ⟨rfl, hb⟩; refine ⟨_, rfl, ?_⟩; have n0_ := Aside0.mk (below_step (by repeat (first | (with_reducible first | exact HB.out | apply below_alloc | apply pw_below_drewN | apply below_drew1) | exact HB.out)) hb); clear HB; have HB := n0_; clear n0_; (try clear hb); (try clear hb2); (try clear hk); (try clear hi)) | ((with_reducible refine gate_callee (f := 14) rfl ?_); refine goesL_ (some 33) rfl rfl Tryd.func14 (by kernel_rfl) rfl #[.string (⟨#[37]⟩ : ByteArray), .int .i64 t166, .int .i64 t167] rfl (by (try simp only [List.map_toArray, List.map_cons, List.map_nil]); first | done | rfl | (simp only [List.length_drop, List.length_take]; rfl)) ?_; (with_reducible refine (word_Binary.calls (⟨#[37]⟩ : ByteArray) t166 t167 t170 t171 _ A10.out).mono ?_); rintro e w30 ⟨rfl, hb⟩; refine ⟨_, rfl, ?_⟩; have n0_ := Aside0.mk (below_step (by repeat (first | (with_reducible first | exact HB.out | apply below_alloc | apply pw_below_drewN | apply below_drew1) | exact HB.out)) hb); clear HB; have HB := n0_; clear n0_; (try clear hb); (try clear hb2); (try clear hk); (try clear hi)) | (go_at_call 24; (with_reducible refine (billhooklaw01_do.calls (⟨#[42]⟩ : ByteArray) t168 t167 t172 _ A23.out).mono ?_); rintro e w31 ⟨rfl, hb⟩; have n0_ := Aside0.mk (below_step (by repeat (first | (with_reducible first | exact HB.out | apply below_alloc | apply pw_below_drewN | apply below_drew1) | exact HB.out)) hb); clear HB; have HB := n0_; clear n0_; (try clear hb); (try clear hb2); (try clear hk); (try clear hi)) | (go_at_call 24; (with_reducible refine (billhooklaw01_do.calls (⟨#[43]⟩ : ByteArray) t172 t170 t173 _ A24.out).mono ?_); rintro e w32 ⟨rfl, hb⟩; have n0_ := Aside0.mk (below_step (by repeat (first | (with_reducible first | exact HB.out | apply below_alloc | apply pw_below_drewN | apply below_drew1) | exact HB.out)) hb); clear HB; have HB := n0_; clear n0_; (try clear hb); (try clear hb2); (try clear hk); (try clear hi)))
              go_ret
              exact ⟨by first | rfl | exact congrArg (fun b_ => Ending.returned (.bool b_)) HTh.out | (simp [HTh.out]; done) | (simp [errW_none, errW_some] <;> rfl) | (simp [*, errW_none, errW_some] <;> rfl), by repeat (first | (with_reducible first | exact HB.out | apply below_alloc | apply pw_below_drewN | apply below_drew1) | exact HB.out)⟩
            · rw [if_neg c25] at H
              have c25b0 : (t173 == t166) = false := beq_eq_false_iff_ne.mpr c25
              have c25b1 : (t173 != t166) = true := bne_iff_ne.mpr c25
              exact absurd H (by simp)
          · rw [if_neg c22] at H
            have c22b0 : (t171 == 0) = false := beq_eq_false_iff_ne.mpr c22
            have c22b1 : (t171 != 0) = true := bne_iff_ne.mpr c22
            exact absurd H (by simp)
        · rw [if_neg c21] at H
          have c21b0 : (t169 == 0) = false := beq_eq_false_iff_ne.mpr c21
          have c21b1 : (t169 != 0) = true := bne_iff_ne.mpr c21
          exact absurd H (by simp)
      · rw [if_neg c20] at H
        have c20b0 : (t170 == 0) = false := beq_eq_false_iff_ne.mpr c20
        have c20b1 : (t170 != 0) = true := bne_iff_ne.mpr c20
        by_cases c33 : ((decide (t170 > 0)) == (decide (t166 > 0))) = true
        · rw [if_pos c33] at H
          have c33b0 : ((decide (t170 > 0)) == (decide (t166 > 0))) = true := c33
          (try (have c33b1 : decide ((decide (t170 > 0)) = (decide (t166 > 0))) = true := by simpa using c33))
          (try (have c33b2 : ((decide (t170 > 0)) == (decide (t166 > 0))) = true := by simpa using c33))
          clear c33
          by_cases c34 : t167 = (-9223372036854775808)
          · rw [if_pos c34] at H
            have c34b0 : (t167 == (-9223372036854775808)) = true := beq_iff_eq.mpr c34
            have c34b1 : (t167 != (-9223372036854775808)) = false := bne_eq_false_iff_eq.mpr c34
            clear c34
            by_cases c35 : t169 = 0
            · rw [if_pos c35] at H
              have c35b0 : (t169 == 0) = true := beq_iff_eq.mpr c35
              have c35b1 : (t169 != 0) = false := bne_eq_false_iff_eq.mpr c35
              clear c35
              by_cases c36 : t171 = 0
              · rw [if_pos c36] at H
                have c36b0 : (t171 == 0) = true := beq_iff_eq.mpr c36
                have c36b1 : (t171 != 0) = false := bne_eq_false_iff_eq.mpr c36
                clear c36
                replace H := Option.bind_eq_some_iff.mp H
                obtain ⟨t174, A370, H⟩ := H
                replace H : ((billhooklaw01_do.f (⟨#[43]⟩ : ByteArray) t174 t170).bind fun t175 => (if t175 = t166 then (some true) else (some false))) = some true := H
                have A37 := Aside0.mk A370
                clear A370
                replace H := Option.bind_eq_some_iff.mp H
                obtain ⟨t175, A380, H⟩ := H
                replace H : (if t175 = t166 then (some true) else (some false)) = some true := H
                have A38 := Aside0.mk A380
                clear A380
                by_cases c39 : t175 = t166
                · rw [if_pos c39] at H
                  have c39b0 : (t175 == t166) = true := beq_iff_eq.mpr c39
                  have c39b1 : (t175 != t166) = false := bne_eq_false_iff_eq.mpr c39
                  clear c39
                  have HTh := Aside0.mk (Option.some.inj H)
                  clear H
                  go_enter Tryd.func4, Tryd.ntmps4
                  go_wp2_with (first | ((with_reducible refine gate_callee (f := 11) rfl ?_); refine goesL_ (some 15) rfl rfl Tryd.func11 (by kernel_rfl) rfl #[] rfl (by (try simp only [List.map_toArray, List.map_cons, List.map_nil]); first | done | rfl | (simp only [List.length_drop, List.length_take]; rfl)) ?_; (with_reducible refine (billhooklaw01_examples.calls  true _ ?side1 A5.out).mono ?_); (case side1 => exact GL.below hG (by repeat (first | (with_reducible first | exact HB.out | apply below_alloc | apply pw_below_drewN | apply below_drew1) | exact HB.out))); rintro e w40 ⟨rfl, hb⟩; refine ⟨_, rfl, ?_⟩; have n0_ := Aside0.mk (below_step (by repeat (first | (with_reducible first | exact HB.out | apply below_alloc | apply pw_below_drewN | apply below_drew1) | exact HB.out)) hb); clear HB; have HB := n0_; clear n0_; (try clear hb); (try clear hb2); (try clear hk); (try clear hi)) | ((with_reducible refine gate_callee (f := 13) rfl ?_); refine goesL_ (some 20) rfl rfl Tryd.func13 (by kernel_rfl) rfl #[.int .i64 a0, .int .u8 a2] rfl (by (try simp only [List.map_toArray, List.map_cons, List.map_nil]); first | done | rfl | (simp only [List.length_drop, List.length_take]; rfl)) ?_; (with_reducible refine (billhooklaw01_near.calls a0 a2 t166 _ A7.out).mono ?_); rintro e w41 ⟨rfl, hb⟩; refine ⟨_, rfl, ?_⟩; have n0_ := Aside0.mk (below_step (by repeat (first | (with_reducible first | exact HB.out | apply below_alloc | apply pw_below_drewN | apply below_drew1) | exact HB.out)) hb); clear HB; have HB := n0_; clear n0_; (try clear hb); (try clear hb2); (try clear hk); (try clear hi)) | ((with_reducible refine gate_callee (f := 13) rfl ?_); refine goesL_ (some 23) rfl rfl Tryd.func13 (by kernel_rfl) rfl #[.int .i64 a1, .int .u8 a3] rfl (by (try simp only [List.map_toArray, List.map_cons, List.map_nil]); first | done | rfl | (simp only [List.length_drop, List.length_take]; rfl)) ?_; (with_reducible refine (billhooklaw01_near.calls a1 a3 t167 _ A8.out).mono ?_); rintro e w42 ⟨rfl, hb⟩; refine ⟨_, rfl, ?_⟩; have n0_ := Aside0.mk (below_step (by repeat (first | (with_reducible first | exact HB.out | apply below_alloc | apply pw_below_drewN | apply below_drew1) | exact HB.out)) hb); clear HB; have HB := n0_; clear n0_; (try clear hb); (try clear hb2); (try clear hk); (try clear hi)) | ((with_reducible refine gate_callee (f := 14) rfl ?_); refine goesL_ (some 27) rfl rfl Tryd.func14 (by kernel_rfl) rfl #[.string (⟨#[47]⟩ : ByteArray), .int .i64 t166, .int .i64 t167] rfl (by (try simp only [List.map_toArray, List.map_cons, List.map_nil]); first | done | rfl | (simp only [List.length_drop, List.length_take]; rfl)) ?_; (with_reducible refine (word_Binary.calls (⟨#[47]⟩ : ByteArray) t166 t167 t168 t169 _ A9.out).mono ?_); rintro e w43 ⟨rfl, hb⟩; refine ⟨_, rfl, ?_⟩; have n0_ := Aside0.mk (below_step (by repeat (first | (with_reducible first | exact HB.out | apply below_alloc | apply pw_below_drewN | apply below_drew1) | exact HB.out)) hb); clear HB; have HB := n0_; clear n0_; (try clear hb); (try clear hb2); (try clear hk); (try clear hi)) | ((with_reducible refine gate_callee (f := 14) rfl ?_); refine goesL_ (some 33) rfl rfl Tryd.func14 (by kernel_rfl) rfl #[.string (⟨#[37]⟩ : ByteArray), .int .i64 t166, .int .i64 t167] rfl (by (try simp only [List.map_toArray, List.map_cons, List.map_nil]); first | done | rfl | (simp only [List.length_drop, List.length_take]; rfl)) ?_; (with_reducible refine (word_Binary.calls (⟨#[37]⟩ : ByteArray) t166 t167 t170 t171 _ A10.out).mono ?_); rintro e w44 ⟨rfl, hb⟩; refine ⟨_, rfl, ?_⟩; have n0_ := Aside0.mk (below_step (by repeat (first | (with_reducible first | exact HB.out | apply below_alloc | apply pw_below_drewN | apply below_drew1) | exact HB.out)) hb); clear HB; have HB := n0_; clear n0_; (try clear hb); (try clear hb2); (try clear hk); (try clear hi)) | (go_at_call 24; (with_reducible refine (billhooklaw01_do.calls (⟨#[42]⟩ : ByteArray) t168 t167 t174 _ A37.out).mono ?_); rintro e w45 ⟨rfl, hb⟩; have n0_ := Aside0.mk (below_step (by repeat (first | (with_reducible first | exact HB.out | apply below_alloc | apply pw_below_drewN | apply below_drew1) | exact HB.out)) hb); clear HB; have HB := n0_; clear n0_; (try clear hb); (try clear hb2); (try clear hk); (try clear hi)) | (go_at_call 24; (with_reducible refine (billhooklaw01_do.calls (⟨#[43]⟩ : ByteArray) t174 t170 t175 _ A38.out).mono ?_); rintro e w46 ⟨rfl, hb⟩; have n0_ := Aside0.mk (below_step (by repeat (first | (with_reducible first | exact HB.out | apply below_alloc | apply pw_below_drewN | apply below_drew1) | exact HB.out)) hb); clear HB; have HB := n0_; clear n0_; (try clear hb); (try clear hb2); (try clear hk); (try clear hi)))
                  go_ret
                  exact ⟨by first | rfl | exact congrArg (fun b_ => Ending.returned (.bool b_)) HTh.out | (simp [HTh.out]; done) | (simp [errW_none, errW_some] <;> rfl) | (simp [*, errW_none, errW_some] <;> rfl), by repeat (first | (with_reducible first | exact HB.out | apply below_alloc | apply pw_below_drewN | apply below_drew1) | exact HB.out)⟩
                · rw [if_neg c39] at H
                  have c39b0 : (t175 == t166) = false := beq_eq_false_iff_ne.mpr c39
                  have c39b1 : (t175 != t166) = true := bne_iff_ne.mpr c39
                  exact absurd H (by simp)
              · rw [if_neg c36] at H
                have c36b0 : (t171 == 0) = false := beq_eq_false_iff_ne.mpr c36
                have c36b1 : (t171 != 0) = true := bne_iff_ne.mpr c36
                exact absurd H (by simp)
            · rw [if_neg c35] at H
              have c35b0 : (t169 == 0) = false := beq_eq_false_iff_ne.mpr c35
              have c35b1 : (t169 != 0) = true := bne_iff_ne.mpr c35
              exact absurd H (by simp)
          · rw [if_neg c34] at H
            have c34b0 : (t167 == (-9223372036854775808)) = false := beq_eq_false_iff_ne.mpr c34
            have c34b1 : (t167 != (-9223372036854775808)) = true := bne_iff_ne.mpr c34
            obtain ⟨ji47, hji47⟩ : ∃ j_ : Int, (mx t170 (wrap64 (-t170))) = j_ := ⟨_, rfl⟩
            replace H : ((billhooklaw01_do.f (⟨#[60]⟩ : ByteArray) (ji47) (mx t167 (wrap64 (-t167)))).bind fun t176 => (if t169 = 0 then (if t171 = 0 then ((billhooklaw01_do.f (⟨#[42]⟩ : ByteArray) t168 t167).bind fun t177 => ((billhooklaw01_do.f (⟨#[43]⟩ : ByteArray) t177 t170).bind fun t178 => (if t178 = t166 then (some (t176 == 1)) else (some false)))) else (some false)) else (some false))) = some true := by first | (rw [hji47] at H; exact H) | (simp only [hji47] at H ⊢; exact H)
            (try rw [hji47] at A5)
            (try rw [hji47] at A7)
            (try rw [hji47] at A8)
            (try rw [hji47] at A9)
            (try rw [hji47] at A10)
            have hji47_ : (if t170 < (wrap64 (-t170)) then (wrap64 (-t170)) else t170) = ji47 := hji47
            obtain ⟨ji48, hji48⟩ : ∃ j_ : Int, (mx t167 (wrap64 (-t167))) = j_ := ⟨_, rfl⟩
            replace H : ((billhooklaw01_do.f (⟨#[60]⟩ : ByteArray) (ji47) (ji48)).bind fun t176 => (if t169 = 0 then (if t171 = 0 then ((billhooklaw01_do.f (⟨#[42]⟩ : ByteArray) t168 t167).bind fun t177 => ((billhooklaw01_do.f (⟨#[43]⟩ : ByteArray) t177 t170).bind fun t178 => (if t178 = t166 then (some (t176 == 1)) else (some false)))) else (some false)) else (some false))) = some true := by first | (rw [hji48] at H; exact H) | (simp only [hji48] at H ⊢; exact H)
            (try rw [hji48] at A5)
            (try rw [hji48] at A7)
            (try rw [hji48] at A8)
            (try rw [hji48] at A9)
            (try rw [hji48] at A10)
            have hji48_ : (if t167 < (wrap64 (-t167)) then (wrap64 (-t167)) else t167) = ji48 := hji48
            replace H := Option.bind_eq_some_iff.mp H
            obtain ⟨t176, A490, H⟩ := H
            replace H : (if t169 = 0 then (if t171 = 0 then ((billhooklaw01_do.f (⟨#[42]⟩ : ByteArray) t168 t167).bind fun t177 => ((billhooklaw01_do.f (⟨#[43]⟩ : ByteArray) t177 t170).bind fun t178 => (if t178 = t166 then (some (t176 == 1)) else (some false)))) else (some false)) else (some false)) = some true := H
            have A49 := Aside0.mk A490
            clear A490
            by_cases c50 : t169 = 0
            · rw [if_pos c50] at H
              have c50b0 : (t169 == 0) = true := beq_iff_eq.mpr c50
              have c50b1 : (t169 != 0) = false := bne_eq_false_iff_eq.mpr c50
              clear c50
              by_cases c51 : t171 = 0
              · rw [if_pos c51] at H
                have c51b0 : (t171 == 0) = true := beq_iff_eq.mpr c51
                have c51b1 : (t171 != 0) = false := bne_eq_false_iff_eq.mpr c51
                clear c51
                replace H := Option.bind_eq_some_iff.mp H
                obtain ⟨t177, A520, H⟩ := H
                replace H : ((billhooklaw01_do.f (⟨#[43]⟩ : ByteArray) t177 t170).bind fun t178 => (if t178 = t166 then (some (t176 == 1)) else (some false))) = some true := H
                have A52 := Aside0.mk A520
                clear A520
                replace H := Option.bind_eq_some_iff.mp H
                obtain ⟨t178, A530, H⟩ := H
                replace H : (if t178 = t166 then (some (t176 == 1)) else (some false)) = some true := H
                have A53 := Aside0.mk A530
                clear A530
                by_cases c54 : t178 = t166
                · rw [if_pos c54] at H
                  have c54b0 : (t178 == t166) = true := beq_iff_eq.mpr c54
                  have c54b1 : (t178 != t166) = false := bne_eq_false_iff_eq.mpr c54
                  clear c54
                  have HTh := Aside0.mk (Option.some.inj H)
                  clear H
                  go_enter Tryd.func4, Tryd.ntmps4
                  go_wp2_with (first | ((with_reducible refine gate_callee (f := 11) rfl ?_); refine goesL_ (some 15) rfl rfl Tryd.func11 (by kernel_rfl) rfl #[] rfl (by (try simp only [List.map_toArray, List.map_cons, List.map_nil]); first | done | rfl | (simp only [List.length_drop, List.length_take]; rfl)) ?_; (with_reducible refine (billhooklaw01_examples.calls  true _ ?side1 A5.out).mono ?_); (case side1 => exact GL.below hG (by repeat (first | (with_reducible first | exact HB.out | apply below_alloc | apply pw_below_drewN | apply below_drew1) | exact HB.out))); rintro e w55 ⟨rfl, hb⟩; refine ⟨_, rfl, ?_⟩; have n0_ := Aside0.mk (below_step (by repeat (first | (with_reducible first | exact HB.out | apply below_alloc | apply pw_below_drewN | apply below_drew1) | exact HB.out)) hb); clear HB; have HB := n0_; clear n0_; (try clear hb); (try clear hb2); (try clear hk); (try clear hi)) | ((with_reducible refine gate_callee (f := 13) rfl ?_); refine goesL_ (some 20) rfl rfl Tryd.func13 (by kernel_rfl) rfl #[.int .i64 a0, .int .u8 a2] rfl (by (try simp only [List.map_toArray, List.map_cons, List.map_nil]); first | done | rfl | (simp only [List.length_drop, List.length_take]; rfl)) ?_; (with_reducible refine (billhooklaw01_near.calls a0 a2 t166 _ A7.out).mono ?_); rintro e w56 ⟨rfl, hb⟩; refine ⟨_, rfl, ?_⟩; have n0_ := Aside0.mk (below_step (by repeat (first | (with_reducible first | exact HB.out | apply below_alloc | apply pw_below_drewN | apply below_drew1) | exact HB.out)) hb); clear HB; have HB := n0_; clear n0_; (try clear hb); (try clear hb2); (try clear hk); (try clear hi)) | ((with_reducible refine gate_callee (f := 13) rfl ?_); refine goesL_ (some 23) rfl rfl Tryd.func13 (by kernel_rfl) rfl #[.int .i64 a1, .int .u8 a3] rfl (by (try simp only [List.map_toArray, List.map_cons, List.map_nil]); first | done | rfl | (simp only [List.length_drop, List.length_take]; rfl)) ?_; (with_reducible refine (billhooklaw01_near.calls a1 a3 t167 _ A8.out).mono ?_); rintro e w57 ⟨rfl, hb⟩; refine ⟨_, rfl, ?_⟩; have n0_ := Aside0.mk (below_step (by repeat (first | (with_reducible first | exact HB.out | apply below_alloc | apply pw_below_drewN | apply below_drew1) | exact HB.out)) hb); clear HB; have HB := n0_; clear n0_; (try clear hb); (try clear hb2); (try clear hk); (try clear hi)) | ((with_reducible refine gate_callee (f := 14) rfl ?_); refine goesL_ (some 27) rfl rfl Tryd.func14 (by kernel_rfl) rfl #[.string (⟨#[47]⟩ : ByteArray), .int .i64 t166, .int .i64 t167] rfl (by (try simp only [List.map_toArray, List.map_cons, List.map_nil]); first | done | rfl | (simp only [List.length_drop, List.length_take]; rfl)) ?_; (with_reducible refine (word_Binary.calls (⟨#[47]⟩ : ByteArray) t166 t167 t168 t169 _ A9.out).mono ?_); rintro e w58 ⟨rfl, hb⟩; refine ⟨_, rfl, ?_⟩; have n0_ := Aside0.mk (below_step (by repeat (first | (with_reducible first | exact HB.out | apply below_alloc | apply pw_below_drewN | apply below_drew1) | exact HB.out)) hb); clear HB; have HB := n0_; clear n0_; (try clear hb); (try clear hb2); (try clear hk); (try clear hi)) | ((with_reducible refine gate_callee (f := 14) rfl ?_); refine goesL_ (some 33) rfl rfl Tryd.func14 (by kernel_rfl) rfl #[.string (⟨#[37]⟩ : ByteArray), .int .i64 t166, .int .i64 t167] rfl (by (try simp only [List.map_toArray, List.map_cons, List.map_nil]); first | done | rfl | (simp only [List.length_drop, List.length_take]; rfl)) ?_; (with_reducible refine (word_Binary.calls (⟨#[37]⟩ : ByteArray) t166 t167 t170 t171 _ A10.out).mono ?_); rintro e w59 ⟨rfl, hb⟩; refine ⟨_, rfl, ?_⟩; have n0_ := Aside0.mk (below_step (by repeat (first | (with_reducible first | exact HB.out | apply below_alloc | apply pw_below_drewN | apply below_drew1) | exact HB.out)) hb); clear HB; have HB := n0_; clear n0_; (try clear hb); (try clear hb2); (try clear hk); (try clear hi)) | (go_at_call 24; (with_reducible refine (billhooklaw01_do.calls (⟨#[60]⟩ : ByteArray) ji47 ji48 t176 _ A49.out).mono ?_); rintro e w60 ⟨rfl, hb⟩; have n0_ := Aside0.mk (below_step (by repeat (first | (with_reducible first | exact HB.out | apply below_alloc | apply pw_below_drewN | apply below_drew1) | exact HB.out)) hb); clear HB; have HB := n0_; clear n0_; (try clear hb); (try clear hb2); (try clear hk); (try clear hi)) | (go_at_call 24; (with_reducible refine (billhooklaw01_do.calls (⟨#[42]⟩ : ByteArray) t168 t167 t177 _ A52.out).mono ?_); rintro e w61 ⟨rfl, hb⟩; have n0_ := Aside0.mk (below_step (by repeat (first | (with_reducible first | exact HB.out | apply below_alloc | apply pw_below_drewN | apply below_drew1) | exact HB.out)) hb); clear HB; have HB := n0_; clear n0_; (try clear hb); (try clear hb2); (try clear hk); (try clear hi)) | (go_at_call 24; (with_reducible refine (billhooklaw01_do.calls (⟨#[43]⟩ : ByteArray) t177 t170 t178 _ A53.out).mono ?_); rintro e w62 ⟨rfl, hb⟩; have n0_ := Aside0.mk (below_step (by repeat (first | (with_reducible first | exact HB.out | apply below_alloc | apply pw_below_drewN | apply below_drew1) | exact HB.out)) hb); clear HB; have HB := n0_; clear n0_; (try clear hb); (try clear hb2); (try clear hk); (try clear hi)))
                  go_ret
                  exact ⟨by first | rfl | exact congrArg (fun b_ => Ending.returned (.bool b_)) HTh.out | (simp [HTh.out]; done) | (simp [errW_none, errW_some] <;> rfl) | (simp only [← hji47, ← hji48]; first | rfl | (simp [errW_none, errW_some] <;> rfl)) | (simp [*, errW_none, errW_some] <;> rfl), by repeat (first | (with_reducible first | exact HB.out | apply below_alloc | apply pw_below_drewN | apply below_drew1) | exact HB.out)⟩
                · rw [if_neg c54] at H
                  have c54b0 : (t178 == t166) = false := beq_eq_false_iff_ne.mpr c54
                  have c54b1 : (t178 != t166) = true := bne_iff_ne.mpr c54
                  exact absurd H (by simp)
              · rw [if_neg c51] at H
                have c51b0 : (t171 == 0) = false := beq_eq_false_iff_ne.mpr c51
                have c51b1 : (t171 != 0) = true := bne_iff_ne.mpr c51
                exact absurd H (by simp)
            · rw [if_neg c50] at H
              have c50b0 : (t169 == 0) = false := beq_eq_false_iff_ne.mpr c50
              have c50b1 : (t169 != 0) = true := bne_iff_ne.mpr c50
              exact absurd H (by simp)
        · rw [if_neg c33] at H
          have c33b0 : ((decide (t170 > 0)) == (decide (t166 > 0))) = false := by simpa using c33
          (try (have c33b1 : decide ((decide (t170 > 0)) = (decide (t166 > 0))) = false := by simpa using c33))
          (try (have c33b2 : ((decide (t170 > 0)) == (decide (t166 > 0))) = false := by simpa using c33))
          (try (have c33b3 : ¬ ((decide (t170 > 0)) = (decide (t166 > 0))) := by simpa using c33))
          clear c33
          by_cases c63 : t169 = 0
          · rw [if_pos c63] at H
            have c63b0 : (t169 == 0) = true := beq_iff_eq.mpr c63
            have c63b1 : (t169 != 0) = false := bne_eq_false_iff_eq.mpr c63
            clear c63
            by_cases c64 : t171 = 0
            · rw [if_pos c64] at H
              have c64b0 : (t171 == 0) = true := beq_iff_eq.mpr c64
              have c64b1 : (t171 != 0) = false := bne_eq_false_iff_eq.mpr c64
              clear c64
              replace H := Option.bind_eq_some_iff.mp H
              obtain ⟨t179, A650, H⟩ := H
              replace H : ((billhooklaw01_do.f (⟨#[43]⟩ : ByteArray) t179 t170).bind fun t180 => (if t180 = t166 then (some false) else (some false))) = some true := H
              have A65 := Aside0.mk A650
              clear A650
              replace H := Option.bind_eq_some_iff.mp H
              obtain ⟨t180, A660, H⟩ := H
              replace H : (if t180 = t166 then (some false) else (some false)) = some true := H
              have A66 := Aside0.mk A660
              clear A660
              by_cases c67 : t180 = t166
              · rw [if_pos c67] at H
                have c67b0 : (t180 == t166) = true := beq_iff_eq.mpr c67
                have c67b1 : (t180 != t166) = false := bne_eq_false_iff_eq.mpr c67
                clear c67
                exact absurd H (by simp)
              · rw [if_neg c67] at H
                have c67b0 : (t180 == t166) = false := beq_eq_false_iff_ne.mpr c67
                have c67b1 : (t180 != t166) = true := bne_iff_ne.mpr c67
                exact absurd H (by simp)
            · rw [if_neg c64] at H
              have c64b0 : (t171 == 0) = false := beq_eq_false_iff_ne.mpr c64
              have c64b1 : (t171 != 0) = true := bne_iff_ne.mpr c64
              exact absurd H (by simp)
          · rw [if_neg c63] at H
            have c63b0 : (t169 == 0) = false := beq_eq_false_iff_ne.mpr c63
            have c63b1 : (t169 != 0) = true := bne_iff_ne.mpr c63
            exact absurd H (by simp)
  · replace c6 := Bool.eq_false_iff.mpr c6
    subst c6
    have H1 : (some false) = some true := by rw [if_neg (show ¬ (false = true) by decide)] at H; exact H
    clear H
    have H := H1
    clear H1
    exact absurd H (by simp)

/-- THE ONE PURE STATEMENT of billhooklaw01_WordDivides: yours. -/
def billhooklaw01_WordDivides.Pure : Prop := ∀ (a0 : Int) (a1 : Int) (a2 : Int) (a3 : Int), (Lit.int .i64 a0).wf = true → (Lit.int .i64 a1).wf = true → (Lit.int .u8 a2).wf = true → (Lit.int .u8 a3).wf = true → billhooklaw01_WordDivides.f a0 a1 a2 a3 = some true
theorem billhooklaw01_WordDivides.walk (P : billhooklaw01_WordDivides.Pure) (a0 : Int) (a1 : Int) (a2 : Int) (a3 : Int) (w : World) (hG : GL w) (w0 : (Lit.int .i64 a0).wf = true) (w1 : (Lit.int .i64 a1).wf = true) (w2 : (Lit.int .u8 a2).wf = true) (w3 : (Lit.int .u8 a3).wf = true) :
    Calls Tryd.prog 4 #[.int .i64 a0, .int .i64 a1, .int .u8 a2, .int .u8 a3] w fun e w' => e = .returned (.bool true) ∧ Below w.heap.size w w' := by
  have h := P a0 a1 a2 a3 w0 w1 w2 w3
  refine (billhooklaw01_WordDivides.calls a0 a1 a2 a3 w hG h).mono ?_
  rintro e w' ⟨rfl, hd⟩
  exact ⟨rfl, hd⟩

end Go.Proofs.YtlkabncoaijepaaDoor.PAll
