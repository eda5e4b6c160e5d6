import Derived.Test.YtlkabncoaijepaaDoorExtFin
import Derived.Test.YtlkabncoaijepaaDoorExtText
namespace Go.Proofs.YtlkabncoaijepaaDoor.X
open Go.RowKit Go.Proofs.YtlkabncoaijepaaDoorW.PrintWords Go.Proofs.YtlkabncoaijepaaDoorW.PrintLast Go.Proofs.YtlkabncoaijepaaDoorW.PrintMore
set_option linter.unusedVariables false

theorem bin_lit (l : List UInt8) (a b : Int) (r : Int × Int) (h : binDo l a b = r) : word_Binary.f ⟨l.toArray⟩ a b = some r := by
  unfold word_Binary.f
  rw [ByteArray.toList_eq, h]
theorem lev_lit (l : List UInt8) (r : Int) (h : (match opIdx l with | some k => opL k | none => 0) = r) : word_Level.f ⟨l.toArray⟩ = some r := by
  unfold word_Level.f
  rw [ByteArray.toList_eq]
  exact congrArg some h
theorem addr0 (a : Addr) : a.add 0 = a := by cases a; rfl
theorem opList_len : opList.length = 18 := by decide
theorem opT_ops (k : Nat) (h : k < 18) : rdOf ByteArray.empty opList (k : Int) = opT k := by
  unfold rdOf
  rw [List.getD_eq_getElem?_getD]
  simp [opList, h]
def billhooklaw01_examples.f : Option Bool := some true
def minText : ByteArray := ⟨#[45, 57, 50, 50, 51, 51, 55, 50, 48, 51, 54, 56, 53, 52, 55, 55, 53, 56, 48, 56]⟩
theorem minText_is : word_Text.f (-9223372036854775808) = some minText := by decide +kernel

set_option maxHeartbeats 4000000 in
set_option maxRecDepth 100000 in
theorem billhooklaw01_examples.calls (r : Bool) (w : World) (hG : GL w) (h : billhooklaw01_examples.f = some r) :
    Calls Tryd.prog 11 #[] w fun e w' => e = .returned (.bool r) ∧ Below w.heap.size w w' := by
  obtain rfl := Option.some.inj h
  have HG := Lib.hid hG
  have h1 := Lib.hid (bin_lit [47] (-7) 2 (-3, 0) (by decide +kernel))
  have h2 := Lib.hid (bin_lit [47] 1 0 (0, 1) (by decide +kernel))
  have h3 := Lib.hid (bin_lit [60, 60] 1 63 (-9223372036854775808, 0) (by decide +kernel))
  have h4 := Lib.hid (bin_lit [62, 62] 1 64 (0, 2) (by decide +kernel))
  have h5 := Lib.hid (bin_lit [47] (-9223372036854775808) (-1) (-9223372036854775808, 0) (by decide +kernel))
  have h6 := Lib.hid (lev_lit [42] 10 (by decide +kernel))
  have h7 := Lib.hid (lev_lit [63] 0 (by decide +kernel))
  have h8 := Lib.hid minText_is
  have q0 : ((opT 0).toList == ([124, 124] : List UInt8)) = true := by rw [opT_toList]; rfl
  have q17 : ((opT 17).toList == ([37] : List UInt8)) = true := by rw [opT_toList]; rfl
  have qt : (minText.toList == ([45, 57, 50, 50, 51, 51, 55, 50, 48, 51, 54, 56, 53, 52, 55, 55, 53, 56, 48, 56] : List UInt8)) = true := by rw [ByteArray.toList_eq]; rfl
  clear hG h
  go_enter Tryd.func11, Tryd.ntmps11
  go_wp2_with (first
    | (go_at_call 14; first
      | ((with_reducible refine (word_Binary.calls _ _ _ _ _ _ h1.out).mono ?_); rintro e w1 ⟨rfl, hb1⟩)
      | ((with_reducible refine (word_Binary.calls _ _ _ _ _ _ h2.out).mono ?_); rintro e w2 ⟨rfl, hb2⟩)
      | ((with_reducible refine (word_Binary.calls _ _ _ _ _ _ h3.out).mono ?_); rintro e w3 ⟨rfl, hb3⟩)
      | ((with_reducible refine (word_Binary.calls _ _ _ _ _ _ h4.out).mono ?_); rintro e w4 ⟨rfl, hb4⟩)
      | ((with_reducible refine (word_Binary.calls _ _ _ _ _ _ h5.out).mono ?_); rintro e w5 ⟨rfl, hb5⟩))
    | (go_at_call 18; refine (word_Ops.calls opList _ rfl).mono ?_; rintro e w6 ⟨v0, rfl, ho, hb6⟩; (obtain ⟨A, c, hv, hl, hr⟩ := Kd.R_reads ho); (rw [opList_len] at hv hl hr); (subst hv); (have HO := Lib.hid ho); (obtain ⟨ad, rfl, hc0⟩ := Kd.at_string hr 0 (by omega) (by decide)); (obtain ⟨ad', e_, hc17⟩ := Kd.at_string hr 17 (by omega) (by decide)); (obtain rfl := Option.some.inj e_); (clear hr ho e_); (rw [show (0 : Int) = ((0 : Nat) : Int) from rfl, opT_ops 0 (by omega)] at hc0); (rw [show (17 : Int) = ((17 : Nat) : Int) from rfl, opT_ops 17 (by omega)] at hc17); (replace hc0 := hc0); simp [addr0] at hc0; simp [Addr.add] at hc17)
    | (go_at_call 20; first
      | ((with_reducible refine (word_Level.calls _ _ _ h6.out).mono ?_); rintro e w7 ⟨rfl, hb7⟩)
      | ((with_reducible refine (word_Level.calls _ _ _ h7.out).mono ?_); rintro e w8 ⟨rfl, hb8⟩))
    | (go_at_call 22; refine (word_Text.calls _ _ _ (GL.below HG.out (((((((hb1.trans (hb2.mono hb1.size)).trans (hb3.mono (by have := hb1.size; have := hb2.size; omega))).trans (hb4.mono (by have := hb1.size; have := hb2.size; have := hb3.size; omega))).trans (hb5.mono (by have := hb1.size; have := hb2.size; have := hb3.size; have := hb4.size; omega))).trans (hb6.mono (by have := hb1.size; have := hb2.size; have := hb3.size; have := hb4.size; have := hb5.size; omega))).trans (hb7.mono (by have := hb1.size; have := hb2.size; have := hb3.size; have := hb4.size; have := hb5.size; have := hb6.size; omega))).trans (hb8.mono (by have := hb1.size; have := hb2.size; have := hb3.size; have := hb4.size; have := hb5.size; have := hb6.size; have := hb7.size; omega)))) h8.out).mono ?_; rintro e w9 ⟨rfl, hb9⟩)
    | go_in)
  go_ret
  refine ⟨rfl, ?_⟩
  have z1 := hb1.size; have z2 := hb2.size; have z3 := hb3.size; have z4 := hb4.size; have z5 := hb5.size; have z6 := hb6.size; have z7 := hb7.size; have z8 := hb8.size
  exact (((((((hb1.trans (hb2.mono (by omega))).trans (hb3.mono (by omega))).trans (hb4.mono (by omega))).trans (hb5.mono (by omega))).trans (hb6.mono (by omega))).trans (hb7.mono (by omega))).trans (hb8.mono (by omega))).trans (hb9.mono (by omega))
end Go.Proofs.YtlkabncoaijepaaDoor.X
