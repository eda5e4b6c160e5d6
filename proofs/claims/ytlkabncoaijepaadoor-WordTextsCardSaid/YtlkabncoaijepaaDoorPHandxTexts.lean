import Derived.Test.YtlkabncoaijepaaDoorTextsW
import Derived.Lib.ItoaLen
namespace Go.Proofs.YtlkabncoaijepaaDoor.PHand
open Go.RowKit Go.Proofs.YtlkabncoaijepaaDoor.Bits Go.Proofs.YtlkabncoaijepaaDoor.Pure Go.Proofs.YtlkabncoaijepaaDoor.X Go.Proofs.YtlkabncoaijepaaDoorW.PrintWords Go.Proofs.YtlkabncoaijepaaDoorW.PrintLast Go.Proofs.YtlkabncoaijepaaDoorW.PrintMore
set_option linter.unusedVariables false
set_option linter.unusedSimpArgs false

def M (ds : List UInt8) (j : Nat) : Int := dv (ds.take j)
def dg (ds : List UInt8) (j : Nat) : Int := ((ds.getD j 0).toNat : Int)
theorem M_step (ds : List UInt8) (j : Nat) (h : j < ds.length) : M ds (j + 1) = wrap64 (wrap64 (M ds j * 10) + (dg ds j - 48)) := by
  unfold M dg
  rw [List.take_succ_eq_append_getElem h, dv_snoc, List.getD_eq_getElem?_getD, List.getElem?_eq_getElem h]
  rfl
theorem M_all (ds : List UInt8) : M ds ds.length = dv ds := by unfold M; rw [List.take_length]
theorem dg_get (ds : List UInt8) (j : Nat) (h : j < (⟨ds.toArray⟩ : ByteArray).size) : (((⟨ds.toArray⟩ : ByteArray)[j]'h).toNat : Int) = dg ds j := by
  have h' : j < ds.length := by simpa [ByteArray.size] using h
  unfold dg
  rw [List.getD_eq_getElem?_getD, List.getElem?_eq_getElem h']
  rfl
theorem dg_in (u j : Nat) (h : j < (Lib.decDigits u).length) : 48 ≤ dg (Lib.decDigits u) j ∧ dg (Lib.decDigits u) j ≤ 57 := by
  unfold dg
  rw [List.getD_eq_getElem?_getD, List.getElem?_eq_getElem h]
  have := digits_all u _ (List.getElem_mem h)
  simp only [Option.getD_some]
  omega
theorem getD_head (l : List UInt8) (h : l ≠ []) : l.getD 0 0 = l.head h := by
  cases l with
  | nil => exact absurd rfl h
  | cons c r => rfl
theorem dg_head (u : Nat) (h : 1 < (Lib.decDigits u).length) : (dg (Lib.decDigits u) 0 == 48) = false := by
  have h0 := digits_head u h
  unfold dg
  rw [getD_head _ (digits_ne u), beq_eq_false_iff_ne]
  intro e
  apply h0
  apply UInt8.toNat_inj.1
  show _ = 48
  omega
theorem size_is (l : List UInt8) : (⟨l.toArray⟩ : ByteArray).size = l.length := by simp [ByteArray.size]
theorem full {l : List UInt8} (h : l ≠ []) : (⟨l.toArray⟩ : ByteArray).toList.isEmpty = false := by
  rw [ByteArray.toList_eq]
  simpa using h
def billhooklaw01_WordTexts.Pure : Prop := True
theorem billhooklaw01_WordTexts.walk (P : billhooklaw01_WordTexts.Pure) (a0 : Int) (a1 : Int) (w : World) (hG : GL w) (w0 : (Lit.int .i64 a0).wf = true) (w1 : (Lit.int .u8 a1).wf = true) :
    Calls Tryd.prog 8 #[.int .i64 a0, .int .u8 a1] w fun e w' => e = .returned (.bool true) ∧ Below w.heap.size w w' := by
  obtain ⟨l0, l1⟩ := wf_i64 w0
  obtain ⟨k0, _⟩ := wf_u8 w1
  obtain ⟨n, hn, n0, n1⟩ := near_f a0 a1 l0 l1 k0
  have ht : word_Text.f n = some ⟨(Lib.itoa n).toArray⟩ := by unfold word_Text.f; rw [if_pos ⟨n0, n1⟩]
  have hlen := Lib.itoa_length_le n n0 n1
  by_cases h : n < 0
  · have hi : Lib.itoa n = 45 :: Lib.decDigits n.natAbs := by unfold Lib.itoa; rw [if_pos h]
    rw [hi] at ht hlen
    generalize hu : n.natAbs = u at *
    have hl : 0 < (Lib.decDigits u).length := List.length_pos_iff.2 (digits_ne u)
    refine texts_neg a0 a1 n ⟨(45 :: Lib.decDigits u).toArray⟩ ⟨(Lib.decDigits u).toArray⟩ (Lib.decDigits u).length (dg (Lib.decDigits u) 0) w hG hn ht (full (by simp)) (by rw [size_is]; rfl) (fun _ => rfl) (ext1 _) (full (digits_ne u)) (size_is _) (fun h => dg_get _ 0 h)
      (M (Lib.decDigits u)) (dg (Lib.decDigits u)) rfl (fun j hj => M_step _ j hj) (fun j hj => ⟨(dg_in u j hj).1, (dg_in u j hj).2, fun h => dg_get _ j h⟩) h ?_ (by simp at hlen; omega) ?_
    · rw [M_all, dv_digits]
      have : wrap64 (0 - wrap64 (u : Int)) = wrap64 (0 - (u : Int)) := by unfold wrap64; omega
      rw [this, wrap_in (by omega) (by omega)]
      omega
    · by_cases e : (Lib.decDigits u).length = 1
      · exact .inl e
      · exact .inr ⟨by omega, dg_head u (by omega)⟩
  · have hi : Lib.itoa n = Lib.decDigits n.toNat := by unfold Lib.itoa; rw [if_neg h]
    rw [hi] at ht hlen
    generalize hu : n.toNat = u at *
    have hl : 0 < (Lib.decDigits u).length := List.length_pos_iff.2 (digits_ne u)
    refine texts_pos a0 a1 n ⟨(Lib.decDigits u).toArray⟩ (Lib.decDigits u).length (dg (Lib.decDigits u) 0) w hG hn ht (full (digits_ne u)) (size_is _) ?_ (fun h => dg_get _ 0 h)
      (M (Lib.decDigits u)) (dg (Lib.decDigits u)) rfl (fun j hj => M_step _ j hj) (fun j hj => ⟨(dg_in u j hj).1, (dg_in u j hj).2, fun h => dg_get _ j h⟩) h ?_ (by omega) ?_
    · have := (dg_in u 0 hl).1
      rw [beq_eq_false_iff_ne]; omega
    · rw [M_all, dv_digits, wrap_in (by omega) (by omega)]
      omega
    · by_cases e : (Lib.decDigits u).length = 1
      · exact .inl e
      · exact .inr ⟨by omega, dg_head u (by omega)⟩
end Go.Proofs.YtlkabncoaijepaaDoor.PHand
