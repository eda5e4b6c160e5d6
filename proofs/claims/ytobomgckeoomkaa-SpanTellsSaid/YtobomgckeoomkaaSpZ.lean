import Derived.Test.YtobomgckeoomkaaSpB
import Derived.Test.YtobomgckeoomkaaSpE
import Derived.Test.YtobomgckeoomkaaImCon
set_option linter.unusedVariables false
set_option linter.unusedSimpArgs false
set_option maxRecDepth 100000
open Go Go.Im
def imA : FuncId → Cx := fun f => match f == 27 with | true => {imm := [3]} | false => (match f == 10 with | true => {ext := true} | false => {})
def S.o_ex : Orc := orcAdd 10 (fun | [] => some (.bool false true) | _ => none) S.o_Widen
theorem S.o_ex_ok : OrcOk Go.Proofs.Try.prog S.o_ex := orcAdd_ok S.o_Widen_ok fun a v h => by
  split at h
  · cases h; exact S.examples_sim
  · cases h
theorem S.u64_nonneg (b : Int) : decide (0 ≤ IntKind.wrap .u64 b) = true := by
  have h : IntKind.wrap .u64 b = b % 18446744073709551616 := rfl
  rw [h, decide_eq_true_eq]
  omega
theorem ba_eq {t : ByteArray} {l : List UInt8} (h : (t.data.toList == l) = true) : t = ⟨l.toArray⟩ := by
  obtain ⟨⟨d⟩⟩ := t
  simpa using h
theorem S.u8_in (x : Int) (n : Nat) (h : 256 ≤ n) : inRange (IntKind.wrap .u8 x) n = true := by
  have h' : IntKind.wrap .u8 x = x % 256 := rfl
  rw [h']
  simp only [inRange, Bool.and_eq_true, decide_eq_true_eq]
  omega
theorem S.wI (x : Int) : IntKind.wrap .i64 x = (x + 9223372036854775808) % 18446744073709551616 - 9223372036854775808 := by
  have h : IntKind.wrap .i64 x = bif decide (x % 18446744073709551616 ≥ 9223372036854775808) then x % 18446744073709551616 - 18446744073709551616 else x % 18446744073709551616 := by
    unfold IntKind.wrap
    simp only [IntKind.bits, IntKind.signed, Bool.true_and, Bool.cond_eq_ite]
    rfl
  rw [h, Bool.cond_eq_ite]; split <;> simp only [decide_eq_true_eq] at * <;> omega
theorem S.wU (x : Int) : IntKind.wrap .u64 x = x % 18446744073709551616 := rfl
theorem S.w8 (x : Int) : IntKind.wrap .u8 x = x % 256 := rfl
theorem S.wI_id {x : Int} (h : -9223372036854775808 ≤ x) (h' : x ≤ 9223372036854775807) : IntKind.wrap .i64 x = x := by rw [S.wI]; omega
theorem S.wU_id {x : Int} (h : 0 ≤ x) (h' : x ≤ 18446744073709551615) : IntKind.wrap .u64 x = x := by rw [S.wU]; omega
theorem S.len_nn (c : Int) (u : UInt8) (h : 0 ≤ c) (h' : c ≤ 100) : 0 ≤ IntKind.wrap .i64 (c + IntKind.wrap .i64 (u.toNat : Int)) := by
  have := u.toNat_lt
  rw [S.wI_id (x := (u.toNat : Int)) (by omega) (by omega), S.wI_id (by omega) (by omega)]
  omega
theorem S.hE {orc : Orc} (h : OrcOk Go.Proofs.Try.prog orc) : EnvOk (envC Go.Proofs.Try.prog imA 300 {} orc) := envC_ok hmixed h
