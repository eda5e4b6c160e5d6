import Derived.Test.YtlkabncoaijepaaDoorWordPre
import Derived.Test.YtlkabncoaijepaaDoorPAllx12
namespace Go.Proofs.YtlkabncoaijepaaDoor.Pure
open Go.RowKit Go.Proofs.YtlkabncoaijepaaDoor.Bits Go.Proofs.YtlkabncoaijepaaDoor.X Go.Proofs.YtlkabncoaijepaaDoor.PAll Go.Proofs.YtlkabncoaijepaaDoorW.PrintWords Go.Proofs.YtlkabncoaijepaaDoorW.PrintLast Go.Proofs.YtlkabncoaijepaaDoorW.PrintMore
set_option linter.unusedVariables false

theorem lev_f (s : ByteArray) : word_Level.f s = some (match opIdx s.toList with | some k => opL k | none => 0) := rfl
theorem lev_opT (k : Nat) (h : k < 18) : word_Level.f (opT k) = some (opL k) := by
  rw [lev_f, opIdx_some h rfl]
theorem opL_step (k : Nat) (h : k < 18) : ¬ opL k < (if k = 0 then 1 else opL (k - 1)) ∧ ¬ opL k > 10 := by
  rcases k with _|_|_|_|_|_|_|_|_|_|_|_|_|_|_|_|_|_|k <;> first | decide | omega
theorem levels_loop (s : ByteArray) (d : Nat) : ∀ (i : Nat) (there : Bool), i + d = 18 → (there = true ↔ ∃ j, j < i ∧ (opT j).toList = s.toList) →
    billhooklaw01_WordLevels.l0 (d + 1) s true opList (if i = 0 then 1 else opL (i - 1)) there i = some true := by
  induction d with
  | zero =>
    intro i there hi ht
    have : i = 18 := by omega
    subst this
    rw [billhooklaw01_WordLevels.l0, opList_len]
    have e : (if (18 : Nat) = 0 then (1 : Int) else opL (18 - 1)) = 10 := rfl
    rw [e, if_neg (by omega), if_pos rfl, if_pos rfl, lev_f]
    simp only [Option.bind_some]
    cases hx : opIdx s.toList with
    | some k =>
      obtain ⟨hk, hs⟩ := opIdx_inv hx
      have : there = true := ht.2 ⟨k, hk, by rw [opT_toList]; exact hs.symm⟩
      rw [this]
      have : (0 : Int) < opL k := by rcases k with _|_|_|_|_|_|_|_|_|_|_|_|_|_|_|_|_|_|k <;> first | decide | omega
      simp [this]
    | none =>
      have : there = false := by
        cases there
        · rfl
        · obtain ⟨j, hj, hs⟩ := ht.1 rfl
          rw [opIdx_some hj hs] at hx
          cases hx
      rw [this]
      simp
  | succ d ih =>
    intro i there hi ht
    have hlt : i < 18 := by omega
    rw [billhooklaw01_WordLevels.l0, opList_len]
    rw [if_pos (by omega), if_pos (by omega), opT_ops i hlt, lev_opT i hlt]
    simp only [Option.bind_some]
    obtain ⟨s1, s2⟩ := opL_step i hlt
    rw [if_neg s1, if_neg s2]
    have hw : wrap64 ((i : Int) + 1) = ((i + 1 : Nat) : Int) := by rw [wrap_in (by omega) (by omega)]; omega
    have nx : (if i + 1 = 0 then (1 : Int) else opL (i + 1 - 1)) = opL i := by simp
    rw [hw]
    cases there
    · have := ih (i + 1) ((opT i).toList == s.toList) (by omega) (by
        rw [beq_iff_eq]
        constructor
        · intro h; exact ⟨i, by omega, h⟩
        · rintro ⟨j, hj, hs⟩
          by_cases e : j = i
          · subst e; exact hs
          · exact absurd (ht.2 ⟨j, by omega, hs⟩) (by decide))
      rw [nx] at this
      simpa using this
    · have := ih (i + 1) true (by omega) (by
        constructor
        · intro _; obtain ⟨j, hj, hs⟩ := ht.1 rfl; exact ⟨j, by omega, hs⟩
        · intro _; rfl)
      rw [nx] at this
      simpa using this
theorem WordLevels : billhooklaw01_WordLevels.Pure := by
  intro s hs
  refine ⟨19, ?_⟩
  unfold billhooklaw01_WordLevels.f
  rw [ex_f]
  simp only [Option.bind_some, if_true, word_Ops.f]
  have := levels_loop s 18 0 false (by omega) (by simp)
  simpa using this
end Go.Proofs.YtlkabncoaijepaaDoor.Pure
