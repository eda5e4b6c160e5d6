import Derived.Test.YtlkabncoaijepaaDoorExtOps
import Derived.Test.YtlkabncoaijepaaDoorExtBin
namespace Go.Proofs.YtlkabncoaijepaaDoor.X
open Go.RowKit Go.Proofs.YtlkabncoaijepaaDoorW.PrintWords Go.Proofs.YtlkabncoaijepaaDoorW.PrintLast Go.Proofs.YtlkabncoaijepaaDoorW.PrintMore
set_option linter.unusedVariables false

/-- What an operation of two numbers tells: the number, the trap. -/
def binDo (l : List UInt8) (a b : Int) : Int × Int := match opIdx l with
  | some k => opDo k a b
  | none => (0, 0)
def word_Binary.f (a0 : ByteArray) (a1 : Int) (a2 : Int) : Option (Int × Int) := some (binDo a0.toList a1 a2)

set_option maxHeartbeats 4000000 in
set_option maxRecDepth 100000 in
theorem bin_none (a0 : ByteArray) (hi : opIdx a0.toList = none) (a b : Int) (w : World) :
    Calls Tryd.prog 14 #[.string a0, .int .i64 a, .int .i64 b] w fun e w' => e = .returned (.tuple #[.int .i64 0, .int .i64 0]) ∧ Below w.heap.size w w' := by
  have hu47 := Tryd.underlying47
  have hv : opV a0.toList = .agg #[.string ⟨#[]⟩, .int .i64 0, .nilFunc] := by unfold opV; rw [hi]
  have hf := find_calls a0
  rw [hv, hi] at hf
  have HF := Lib.hid hf
  clear hf hv hi
  go_enter Tryd.func14, Tryd.ntmps14
  go_wp2_with (first | (go_at_call 25; refine (HF.out _).mono ?_; rintro e w1 ⟨rfl, hb⟩) | go_in)
  go_ret2
  exact ⟨rfl, by repeat (first | exact hb | apply below_alloc)⟩

theorem bin_all (a0 : ByteArray) (a b : Int) (w : World) :
    Calls Tryd.prog 14 #[.string a0, .int .i64 a, .int .i64 b] w fun e w' => e = .returned (.tuple #[.int .i64 (binDo a0.toList a b).1, .int .i64 (binDo a0.toList a b).2]) ∧ Below w.heap.size w w' := by
  cases hi : opIdx a0.toList with
  | none => simp only [binDo, hi]; exact bin_none a0 hi a b w
  | some k =>
    simp only [binDo, hi]
    have hk := (opIdx_inv hi).1
    rcases k with _|_|_|_|_|_|_|_|_|_|_|_|_|_|_|_|_|_|k
    · by_cases h1 : a = 0 <;> by_cases h2 : b = 0
      · exact bin_0_11 a0 hi a b h1 h2 w
      · exact bin_0_10 a0 hi a b h1 h2 w
      · exact bin_0_01 a0 hi a b h1 h2 w
      · exact bin_0_00 a0 hi a b h1 h2 w
    · by_cases h1 : a = 0 <;> by_cases h2 : b = 0
      · exact bin_1_11 a0 hi a b h1 h2 w
      · exact bin_1_10 a0 hi a b h1 h2 w
      · exact bin_1_01 a0 hi a b h1 h2 w
      · exact bin_1_00 a0 hi a b h1 h2 w
    · exact bin_2 a0 hi a b w
    · exact bin_3 a0 hi a b w
    · exact bin_4 a0 hi a b w
    · by_cases h1 : a = b
      · exact bin_5_1 a0 hi a b h1 w
      · exact bin_5_0 a0 hi a b h1 w
    · by_cases h1 : a = b
      · exact bin_6_1 a0 hi a b h1 w
      · exact bin_6_0 a0 hi a b h1 w
    · by_cases h1 : a < b
      · exact bin_7_1 a0 hi a b h1 w
      · exact bin_7_0 a0 hi a b h1 w
    · by_cases h1 : a ≤ b
      · exact bin_8_1 a0 hi a b h1 w
      · exact bin_8_0 a0 hi a b h1 w
    · by_cases h1 : b < a
      · exact bin_9_1 a0 hi a b h1 w
      · exact bin_9_0 a0 hi a b h1 w
    · by_cases h1 : b ≤ a
      · exact bin_10_1 a0 hi a b h1 w
      · exact bin_10_0 a0 hi a b h1 w
    · by_cases h0 : b < 0
      · exact bin_11_lo a0 hi a b h0 w
      · by_cases h1 : 63 < b
        · exact bin_11_hi a0 hi a b (by omega) h1 w
        · exact bin_11_in a0 hi a b (by omega) (by omega) w
    · by_cases h0 : b < 0
      · exact bin_12_lo a0 hi a b h0 w
      · by_cases h1 : 63 < b
        · exact bin_12_hi a0 hi a b (by omega) h1 w
        · exact bin_12_in a0 hi a b (by omega) (by omega) w
    · exact bin_13 a0 hi a b w
    · exact bin_14 a0 hi a b w
    · exact bin_15 a0 hi a b w
    · by_cases h1 : b = 0
      · exact bin_16_0 a0 hi a b h1 w
      · exact bin_16_1 a0 hi a b h1 w
    · by_cases h1 : b = 0
      · exact bin_17_0 a0 hi a b h1 w
      · exact bin_17_1 a0 hi a b h1 w
    · omega

theorem word_Binary.calls (a0 : ByteArray) (a1 : Int) (a2 : Int) (r1 : Int) (r2 : Int) (w : World) (h : word_Binary.f a0 a1 a2 = some (r1, r2)) :
    Calls Tryd.prog 14 #[.string a0, .int .i64 a1, .int .i64 a2] w fun e w' => e = .returned (.tuple #[.int .i64 r1, .int .i64 r2]) ∧ Below w.heap.size w w' := by
  have h' : binDo a0.toList a1 a2 = (r1, r2) := Option.some.inj h
  have := bin_all a0 a1 a2 w
  rw [h'] at this
  exact this
end Go.Proofs.YtlkabncoaijepaaDoor.X
