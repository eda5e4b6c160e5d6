import Derived.Test.YtlkabncoaijepaaDoorWordPre
namespace Go.Proofs.YtlkabncoaijepaaDoor.Pure
open Go.RowKit Go.Proofs.YtlkabncoaijepaaDoor.Bits Go.Proofs.YtlkabncoaijepaaDoor.X Go.Proofs.YtlkabncoaijepaaDoorW.PrintWords Go.Proofs.YtlkabncoaijepaaDoorW.PrintLast Go.Proofs.YtlkabncoaijepaaDoorW.PrintMore
set_option linter.unusedVariables false

/-- What the loop holds behind the digits l. -/
def dv (l : List UInt8) : Int := l.foldl (fun m c => wrap64 (wrap64 (m * 10) + ((c.toNat : Int) - 48))) 0
def dn (l : List UInt8) : Nat := l.foldl (fun m c => m * 10 + (c.toNat - 48)) 0
theorem dv_snoc (l : List UInt8) (c : UInt8) : dv (l ++ [c]) = wrap64 (wrap64 (dv l * 10) + ((c.toNat : Int) - 48)) := by
  unfold dv; rw [List.foldl_append]; rfl
theorem dn_snoc (l : List UInt8) (c : UInt8) : dn (l ++ [c]) = dn l * 10 + (c.toNat - 48) := by
  unfold dn; rw [List.foldl_append]; rfl
theorem dig_toNat (d : Nat) (h : d < 10) : (UInt8.ofNat (48 + d)).toNat = 48 + d := by
  rw [UInt8.toNat_ofNat']; omega
theorem digits_all (u : Nat) : ∀ c ∈ Lib.decDigits u, 48 ≤ c.toNat ∧ c.toNat ≤ 57 := by
  induction u using Nat.strongRecOn with
  | ind u ih =>
    intro c hc
    by_cases h : u < 10
    · rw [Lib.decDigits_one h] at hc
      rw [List.mem_singleton] at hc
      subst hc
      rw [dig_toNat u h]; omega
    · rw [Lib.decDigits, dif_neg h, List.mem_append] at hc
      rcases hc with hc | hc
      · exact ih (u / 10) (by omega) c hc
      · rw [List.mem_singleton] at hc
        subst hc
        rw [dig_toNat _ (Nat.mod_lt _ (by omega))]; omega
theorem dn_digits (u : Nat) : dn (Lib.decDigits u) = u := by
  induction u using Nat.strongRecOn with
  | ind u ih =>
    by_cases h : u < 10
    · rw [Lib.decDigits_one h]
      show 0 * 10 + ((UInt8.ofNat (48 + u)).toNat - 48) = u
      rw [dig_toNat u h]; omega
    · rw [Lib.decDigits, dif_neg h, dn_snoc, ih (u / 10) (by omega), dig_toNat _ (Nat.mod_lt _ (by omega))]
      omega
theorem dv_dn_from (l : List UInt8) : ∀ (m : Int) (k : Nat), m = wrap64 (k : Int) → (∀ c ∈ l, 48 ≤ c.toNat) →
    l.foldl (fun m c => wrap64 (wrap64 (m * 10) + ((c.toNat : Int) - 48))) m = wrap64 (l.foldl (fun m c => m * 10 + (c.toNat - 48)) k : Nat) := by
  induction l with
  | nil => intro m k h _; exact h
  | cons c l ih =>
    intro m k h hl
    have hc := hl c (by simp)
    refine ih _ _ ?_ (fun d hd => hl d (by simp [hd]))
    show wrap64 (wrap64 (m * 10) + ((c.toNat : Int) - 48)) = wrap64 ((k * 10 + (c.toNat - 48) : Nat) : Int)
    rw [h, wrap_mul_l, wrap_add_l]
    congr 1
    omega
theorem dv_dn (l : List UInt8) (h : ∀ c ∈ l, 48 ≤ c.toNat) : dv l = wrap64 (dn l : Int) := dv_dn_from l 0 0 (by decide +kernel) h
theorem dv_digits (u : Nat) : dv (Lib.decDigits u) = wrap64 (u : Int) := by
  rw [dv_dn _ (fun c hc => (digits_all u c hc).1), dn_digits]
theorem digits_ne (u : Nat) : Lib.decDigits u ≠ [] := by
  rw [Lib.decDigits]; split <;> simp
/-- No 0 ahead of more digits. -/
theorem digits_head (u : Nat) : 1 < (Lib.decDigits u).length → (Lib.decDigits u).head (digits_ne u) ≠ 48 := by
  induction u using Nat.strongRecOn with
  | ind u ih =>
    intro hl
    by_cases h : u < 10
    · rw [Lib.decDigits_one h] at hl; simp at hl
    · have e : Lib.decDigits u = Lib.decDigits (u / 10) ++ [UInt8.ofNat (48 + u % 10)] := by rw [Lib.decDigits, dif_neg h]
      simp only [e]
      rw [List.head_append_of_ne_nil (digits_ne _)]
      by_cases h2 : u / 10 < 10
      · simp only [Lib.decDigits_one h2, List.head_cons]
        intro hh
        have := congrArg UInt8.toNat hh
        rw [dig_toNat _ h2] at this
        simp at this
        omega
      · apply ih (u / 10) (by omega)
        rw [Lib.decDigits, dif_neg h2]
        simp
        exact List.length_pos_iff.2 (digits_ne _)
end Go.Proofs.YtlkabncoaijepaaDoor.Pure
