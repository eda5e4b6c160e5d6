import Derived.Test.YtlkabncoaijepaaDoorProg
import Derived.Below
import Derived.Tactics
import Derived.WalkKit
import Derived.KernelRfl
import Derived.RowKit3
import Derived.Deep.LoopGhost
import Derived.Deep.QuietTactic
import Derived.BigQuiet
import Derived.WalkLawsBesides
import Derived.WalkSpells
import Derived.Laws.EntriesVeiled
import Derived.Outline
import Derived.Test.YtlkabncoaijepaaDoorExtWord
import Derived.IntWalk
import Derived.Lib.Hide
import Derived.Laws.Slices
import Derived.Laws.Rows
import Derived.RowKit
import Derived.Test.YtlkabncoaijepaaDoorWWords
import Derived.Test.YtlkabncoaijepaaDoorWMore
namespace Go.Proofs.YtlkabncoaijepaaDoor.X
open Go.RowKit Go.Proofs.YtlkabncoaijepaaDoorW.PrintWords Go.Proofs.YtlkabncoaijepaaDoorW.PrintLast Go.Proofs.YtlkabncoaijepaaDoorW.PrintMore

def opDo : Nat → Int → Int → Int × Int
  | 0, a, b => (if a = 0 ∧ b = 0 then 0 else 1, 0)
  | 1, a, b => (if a = 0 ∨ b = 0 then 0 else 1, 0)
  | 2, a, b => (Go.bits .or .i64 a b, 0)
  | 3, a, b => (Go.bits .xor .i64 a b, 0)
  | 4, a, b => (Go.bits .and .i64 a b, 0)
  | 5, a, b => (if a = b then 1 else 0, 0)
  | 6, a, b => (if a = b then 0 else 1, 0)
  | 7, a, b => (if a < b then 1 else 0, 0)
  | 8, a, b => (if a ≤ b then 1 else 0, 0)
  | 9, a, b => (if b < a then 1 else 0, 0)
  | 10, a, b => (if b ≤ a then 1 else 0, 0)
  | 11, a, b => if b < 0 ∨ 63 < b then (0, 2) else (wrap64 (a * 2 ^ b.toNat), 0)
  | 12, a, b => if b < 0 ∨ 63 < b then (0, 2) else (a / 2 ^ b.toNat, 0)
  | 13, a, b => (wrap64 (a + b), 0)
  | 14, a, b => (wrap64 (a - b), 0)
  | 15, a, b => (wrap64 (a * b), 0)
  | 16, a, b => if b = 0 then (0, 1) else (wrap64 (Int.tdiv a b), 0)
  | 17, a, b => if b = 0 then (0, 1) else (Int.tmod a b, 0)
  | _, _, _ => (0, 0)

set_option maxHeartbeats 4000000 in
set_option maxRecDepth 100000 in
theorem bin_0_11 (a0 : ByteArray) (hi : opIdx a0.toList = some 0) (a b : Int) (h1 : a = 0) (h2 : b = 0) (w : World) :
    Calls Tryd.prog 14 #[.string a0, .int .i64 a, .int .i64 b] w fun e w' => e = .returned (.tuple #[.int .i64 (opDo 0 a b).1, .int .i64 (opDo 0 a b).2]) ∧ Below w.heap.size w w' := by
  have hu47 := Tryd.underlying47
  have hv : opV a0.toList = .agg #[.string (opT 0), .int .i64 1, .func (.func 31) #[] #[]] := by unfold opV; rw [hi]; rfl
  have hf := find_calls a0
  rw [hv, hi] at hf
  have HF := Lib.hid hf
  have hq1 : (a0.toList == ([47] : List UInt8)) = false := by rw [(opIdx_inv hi).2]; rfl
  have hq2 : (a0.toList == ([37] : List UInt8)) = false := by rw [(opIdx_inv hi).2]; rfl
  have HR : Hid ((opDo 0 a b) = (0, 0)) := Lib.hid (by simp [opDo, h1, h2])
  have e_h1 : (a == 0) = true := beq_iff_eq.2 h1
  have n_h1 : (a != 0) = false := bne_eq_false_iff_eq.2 h1
  have Hh1 := Lib.hid h1
  clear h1
  have e_h2 : (b == 0) = true := beq_iff_eq.2 h2
  have n_h2 : (b != 0) = false := bne_eq_false_iff_eq.2 h2
  have Hh2 := Lib.hid h2
  clear h2
  clear hf hv hi
  go_enter Tryd.func14, Tryd.ntmps14
  go_wp2_with (first | (go_at_call 25; refine (HF.out _).mono ?_; rintro e w1 ⟨rfl, hb⟩) | go_in)
  go_ret2
  exact ⟨by rw [HR.out] <;> rfl, by repeat (first | exact hb | apply below_alloc)⟩

set_option maxHeartbeats 4000000 in
set_option maxRecDepth 100000 in
theorem bin_0_10 (a0 : ByteArray) (hi : opIdx a0.toList = some 0) (a b : Int) (h1 : a = 0) (h2 : ¬ b = 0) (w : World) :
    Calls Tryd.prog 14 #[.string a0, .int .i64 a, .int .i64 b] w fun e w' => e = .returned (.tuple #[.int .i64 (opDo 0 a b).1, .int .i64 (opDo 0 a b).2]) ∧ Below w.heap.size w w' := by
  have hu47 := Tryd.underlying47
  have hv : opV a0.toList = .agg #[.string (opT 0), .int .i64 1, .func (.func 31) #[] #[]] := by unfold opV; rw [hi]; rfl
  have hf := find_calls a0
  rw [hv, hi] at hf
  have HF := Lib.hid hf
  have hq1 : (a0.toList == ([47] : List UInt8)) = false := by rw [(opIdx_inv hi).2]; rfl
  have hq2 : (a0.toList == ([37] : List UInt8)) = false := by rw [(opIdx_inv hi).2]; rfl
  have HR : Hid ((opDo 0 a b) = (1, 0)) := Lib.hid (by simp [opDo, h1, h2])
  have e_h1 : (a == 0) = true := beq_iff_eq.2 h1
  have n_h1 : (a != 0) = false := bne_eq_false_iff_eq.2 h1
  have Hh1 := Lib.hid h1
  clear h1
  have e_h2 : (b == 0) = false := beq_eq_false_iff_ne.2 h2
  have n_h2 : (b != 0) = true := bne_iff_ne.2 h2
  have Hh2 := Lib.hid h2
  clear h2
  clear hf hv hi
  go_enter Tryd.func14, Tryd.ntmps14
  go_wp2_with (first | (go_at_call 25; refine (HF.out _).mono ?_; rintro e w1 ⟨rfl, hb⟩) | go_in)
  go_ret2
  exact ⟨by rw [HR.out] <;> rfl, by repeat (first | exact hb | apply below_alloc)⟩

set_option maxHeartbeats 4000000 in
set_option maxRecDepth 100000 in
theorem bin_0_01 (a0 : ByteArray) (hi : opIdx a0.toList = some 0) (a b : Int) (h1 : ¬ a = 0) (h2 : b = 0) (w : World) :
    Calls Tryd.prog 14 #[.string a0, .int .i64 a, .int .i64 b] w fun e w' => e = .returned (.tuple #[.int .i64 (opDo 0 a b).1, .int .i64 (opDo 0 a b).2]) ∧ Below w.heap.size w w' := by
  have hu47 := Tryd.underlying47
  have hv : opV a0.toList = .agg #[.string (opT 0), .int .i64 1, .func (.func 31) #[] #[]] := by unfold opV; rw [hi]; rfl
  have hf := find_calls a0
  rw [hv, hi] at hf
  have HF := Lib.hid hf
  have hq1 : (a0.toList == ([47] : List UInt8)) = false := by rw [(opIdx_inv hi).2]; rfl
  have hq2 : (a0.toList == ([37] : List UInt8)) = false := by rw [(opIdx_inv hi).2]; rfl
  have HR : Hid ((opDo 0 a b) = (1, 0)) := Lib.hid (by simp [opDo, h1, h2])
  have e_h1 : (a == 0) = false := beq_eq_false_iff_ne.2 h1
  have n_h1 : (a != 0) = true := bne_iff_ne.2 h1
  have Hh1 := Lib.hid h1
  clear h1
  have e_h2 : (b == 0) = true := beq_iff_eq.2 h2
  have n_h2 : (b != 0) = false := bne_eq_false_iff_eq.2 h2
  have Hh2 := Lib.hid h2
  clear h2
  clear hf hv hi
  go_enter Tryd.func14, Tryd.ntmps14
  go_wp2_with (first | (go_at_call 25; refine (HF.out _).mono ?_; rintro e w1 ⟨rfl, hb⟩) | go_in)
  go_ret2
  exact ⟨by rw [HR.out] <;> rfl, by repeat (first | exact hb | apply below_alloc)⟩

set_option maxHeartbeats 4000000 in
set_option maxRecDepth 100000 in
theorem bin_0_00 (a0 : ByteArray) (hi : opIdx a0.toList = some 0) (a b : Int) (h1 : ¬ a = 0) (h2 : ¬ b = 0) (w : World) :
    Calls Tryd.prog 14 #[.string a0, .int .i64 a, .int .i64 b] w fun e w' => e = .returned (.tuple #[.int .i64 (opDo 0 a b).1, .int .i64 (opDo 0 a b).2]) ∧ Below w.heap.size w w' := by
  have hu47 := Tryd.underlying47
  have hv : opV a0.toList = .agg #[.string (opT 0), .int .i64 1, .func (.func 31) #[] #[]] := by unfold opV; rw [hi]; rfl
  have hf := find_calls a0
  rw [hv, hi] at hf
  have HF := Lib.hid hf
  have hq1 : (a0.toList == ([47] : List UInt8)) = false := by rw [(opIdx_inv hi).2]; rfl
  have hq2 : (a0.toList == ([37] : List UInt8)) = false := by rw [(opIdx_inv hi).2]; rfl
  have HR : Hid ((opDo 0 a b) = (1, 0)) := Lib.hid (by simp [opDo, h1, h2])
  have e_h1 : (a == 0) = false := beq_eq_false_iff_ne.2 h1
  have n_h1 : (a != 0) = true := bne_iff_ne.2 h1
  have Hh1 := Lib.hid h1
  clear h1
  have e_h2 : (b == 0) = false := beq_eq_false_iff_ne.2 h2
  have n_h2 : (b != 0) = true := bne_iff_ne.2 h2
  have Hh2 := Lib.hid h2
  clear h2
  clear hf hv hi
  go_enter Tryd.func14, Tryd.ntmps14
  go_wp2_with (first | (go_at_call 25; refine (HF.out _).mono ?_; rintro e w1 ⟨rfl, hb⟩) | go_in)
  go_ret2
  exact ⟨by rw [HR.out] <;> rfl, by repeat (first | exact hb | apply below_alloc)⟩

set_option maxHeartbeats 4000000 in
set_option maxRecDepth 100000 in
theorem bin_1_11 (a0 : ByteArray) (hi : opIdx a0.toList = some 1) (a b : Int) (h1 : a = 0) (h2 : b = 0) (w : World) :
    Calls Tryd.prog 14 #[.string a0, .int .i64 a, .int .i64 b] w fun e w' => e = .returned (.tuple #[.int .i64 (opDo 1 a b).1, .int .i64 (opDo 1 a b).2]) ∧ Below w.heap.size w w' := by
  have hu47 := Tryd.underlying47
  have hv : opV a0.toList = .agg #[.string (opT 1), .int .i64 2, .func (.func 32) #[] #[]] := by unfold opV; rw [hi]; rfl
  have hf := find_calls a0
  rw [hv, hi] at hf
  have HF := Lib.hid hf
  have hq1 : (a0.toList == ([47] : List UInt8)) = false := by rw [(opIdx_inv hi).2]; rfl
  have hq2 : (a0.toList == ([37] : List UInt8)) = false := by rw [(opIdx_inv hi).2]; rfl
  have HR : Hid ((opDo 1 a b) = (0, 0)) := Lib.hid (by simp [opDo, h1, h2])
  have e_h1 : (a == 0) = true := beq_iff_eq.2 h1
  have n_h1 : (a != 0) = false := bne_eq_false_iff_eq.2 h1
  have Hh1 := Lib.hid h1
  clear h1
  have e_h2 : (b == 0) = true := beq_iff_eq.2 h2
  have n_h2 : (b != 0) = false := bne_eq_false_iff_eq.2 h2
  have Hh2 := Lib.hid h2
  clear h2
  clear hf hv hi
  go_enter Tryd.func14, Tryd.ntmps14
  go_wp2_with (first | (go_at_call 25; refine (HF.out _).mono ?_; rintro e w1 ⟨rfl, hb⟩) | go_in)
  go_ret2
  exact ⟨by rw [HR.out] <;> rfl, by repeat (first | exact hb | apply below_alloc)⟩

set_option maxHeartbeats 4000000 in
set_option maxRecDepth 100000 in
theorem bin_1_10 (a0 : ByteArray) (hi : opIdx a0.toList = some 1) (a b : Int) (h1 : a = 0) (h2 : ¬ b = 0) (w : World) :
    Calls Tryd.prog 14 #[.string a0, .int .i64 a, .int .i64 b] w fun e w' => e = .returned (.tuple #[.int .i64 (opDo 1 a b).1, .int .i64 (opDo 1 a b).2]) ∧ Below w.heap.size w w' := by
  have hu47 := Tryd.underlying47
  have hv : opV a0.toList = .agg #[.string (opT 1), .int .i64 2, .func (.func 32) #[] #[]] := by unfold opV; rw [hi]; rfl
  have hf := find_calls a0
  rw [hv, hi] at hf
  have HF := Lib.hid hf
  have hq1 : (a0.toList == ([47] : List UInt8)) = false := by rw [(opIdx_inv hi).2]; rfl
  have hq2 : (a0.toList == ([37] : List UInt8)) = false := by rw [(opIdx_inv hi).2]; rfl
  have HR : Hid ((opDo 1 a b) = (0, 0)) := Lib.hid (by simp [opDo, h1, h2])
  have e_h1 : (a == 0) = true := beq_iff_eq.2 h1
  have n_h1 : (a != 0) = false := bne_eq_false_iff_eq.2 h1
  have Hh1 := Lib.hid h1
  clear h1
  have e_h2 : (b == 0) = false := beq_eq_false_iff_ne.2 h2
  have n_h2 : (b != 0) = true := bne_iff_ne.2 h2
  have Hh2 := Lib.hid h2
  clear h2
  clear hf hv hi
  go_enter Tryd.func14, Tryd.ntmps14
  go_wp2_with (first | (go_at_call 25; refine (HF.out _).mono ?_; rintro e w1 ⟨rfl, hb⟩) | go_in)
  go_ret2
  exact ⟨by rw [HR.out] <;> rfl, by repeat (first | exact hb | apply below_alloc)⟩

set_option maxHeartbeats 4000000 in
set_option maxRecDepth 100000 in
theorem bin_1_01 (a0 : ByteArray) (hi : opIdx a0.toList = some 1) (a b : Int) (h1 : ¬ a = 0) (h2 : b = 0) (w : World) :
    Calls Tryd.prog 14 #[.string a0, .int .i64 a, .int .i64 b] w fun e w' => e = .returned (.tuple #[.int .i64 (opDo 1 a b).1, .int .i64 (opDo 1 a b).2]) ∧ Below w.heap.size w w' := by
  have hu47 := Tryd.underlying47
  have hv : opV a0.toList = .agg #[.string (opT 1), .int .i64 2, .func (.func 32) #[] #[]] := by unfold opV; rw [hi]; rfl
  have hf := find_calls a0
  rw [hv, hi] at hf
  have HF := Lib.hid hf
  have hq1 : (a0.toList == ([47] : List UInt8)) = false := by rw [(opIdx_inv hi).2]; rfl
  have hq2 : (a0.toList == ([37] : List UInt8)) = false := by rw [(opIdx_inv hi).2]; rfl
  have HR : Hid ((opDo 1 a b) = (0, 0)) := Lib.hid (by simp [opDo, h1, h2])
  have e_h1 : (a == 0) = false := beq_eq_false_iff_ne.2 h1
  have n_h1 : (a != 0) = true := bne_iff_ne.2 h1
  have Hh1 := Lib.hid h1
  clear h1
  have e_h2 : (b == 0) = true := beq_iff_eq.2 h2
  have n_h2 : (b != 0) = false := bne_eq_false_iff_eq.2 h2
  have Hh2 := Lib.hid h2
  clear h2
  clear hf hv hi
  go_enter Tryd.func14, Tryd.ntmps14
  go_wp2_with (first | (go_at_call 25; refine (HF.out _).mono ?_; rintro e w1 ⟨rfl, hb⟩) | go_in)
  go_ret2
  exact ⟨by rw [HR.out] <;> rfl, by repeat (first | exact hb | apply below_alloc)⟩

set_option maxHeartbeats 4000000 in
set_option maxRecDepth 100000 in
theorem bin_1_00 (a0 : ByteArray) (hi : opIdx a0.toList = some 1) (a b : Int) (h1 : ¬ a = 0) (h2 : ¬ b = 0) (w : World) :
    Calls Tryd.prog 14 #[.string a0, .int .i64 a, .int .i64 b] w fun e w' => e = .returned (.tuple #[.int .i64 (opDo 1 a b).1, .int .i64 (opDo 1 a b).2]) ∧ Below w.heap.size w w' := by
  have hu47 := Tryd.underlying47
  have hv : opV a0.toList = .agg #[.string (opT 1), .int .i64 2, .func (.func 32) #[] #[]] := by unfold opV; rw [hi]; rfl
  have hf := find_calls a0
  rw [hv, hi] at hf
  have HF := Lib.hid hf
  have hq1 : (a0.toList == ([47] : List UInt8)) = false := by rw [(opIdx_inv hi).2]; rfl
  have hq2 : (a0.toList == ([37] : List UInt8)) = false := by rw [(opIdx_inv hi).2]; rfl
  have HR : Hid ((opDo 1 a b) = (1, 0)) := Lib.hid (by simp [opDo, h1, h2])
  have e_h1 : (a == 0) = false := beq_eq_false_iff_ne.2 h1
  have n_h1 : (a != 0) = true := bne_iff_ne.2 h1
  have Hh1 := Lib.hid h1
  clear h1
  have e_h2 : (b == 0) = false := beq_eq_false_iff_ne.2 h2
  have n_h2 : (b != 0) = true := bne_iff_ne.2 h2
  have Hh2 := Lib.hid h2
  clear h2
  clear hf hv hi
  go_enter Tryd.func14, Tryd.ntmps14
  go_wp2_with (first | (go_at_call 25; refine (HF.out _).mono ?_; rintro e w1 ⟨rfl, hb⟩) | go_in)
  go_ret2
  exact ⟨by rw [HR.out] <;> rfl, by repeat (first | exact hb | apply below_alloc)⟩

set_option maxHeartbeats 4000000 in
set_option maxRecDepth 100000 in
theorem bin_2 (a0 : ByteArray) (hi : opIdx a0.toList = some 2) (a b : Int) (w : World) :
    Calls Tryd.prog 14 #[.string a0, .int .i64 a, .int .i64 b] w fun e w' => e = .returned (.tuple #[.int .i64 (opDo 2 a b).1, .int .i64 (opDo 2 a b).2]) ∧ Below w.heap.size w w' := by
  have hu47 := Tryd.underlying47
  have hv : opV a0.toList = .agg #[.string (opT 2), .int .i64 3, .func (.func 33) #[] #[]] := by unfold opV; rw [hi]; rfl
  have hf := find_calls a0
  rw [hv, hi] at hf
  have HF := Lib.hid hf
  have hq1 : (a0.toList == ([47] : List UInt8)) = false := by rw [(opIdx_inv hi).2]; rfl
  have hq2 : (a0.toList == ([37] : List UInt8)) = false := by rw [(opIdx_inv hi).2]; rfl
  have HR : Hid ((opDo 2 a b) = (Go.bits .or .i64 a b, 0)) := Lib.hid (by simp [opDo])
  clear hf hv hi
  go_enter Tryd.func14, Tryd.ntmps14
  go_wp2_with (first | (go_at_call 25; refine (HF.out _).mono ?_; rintro e w1 ⟨rfl, hb⟩) | go_in)
  go_ret2
  exact ⟨by rw [HR.out] <;> rfl, by repeat (first | exact hb | apply below_alloc)⟩

set_option maxHeartbeats 4000000 in
set_option maxRecDepth 100000 in
theorem bin_3 (a0 : ByteArray) (hi : opIdx a0.toList = some 3) (a b : Int) (w : World) :
    Calls Tryd.prog 14 #[.string a0, .int .i64 a, .int .i64 b] w fun e w' => e = .returned (.tuple #[.int .i64 (opDo 3 a b).1, .int .i64 (opDo 3 a b).2]) ∧ Below w.heap.size w w' := by
  have hu47 := Tryd.underlying47
  have hv : opV a0.toList = .agg #[.string (opT 3), .int .i64 4, .func (.func 34) #[] #[]] := by unfold opV; rw [hi]; rfl
  have hf := find_calls a0
  rw [hv, hi] at hf
  have HF := Lib.hid hf
  have hq1 : (a0.toList == ([47] : List UInt8)) = false := by rw [(opIdx_inv hi).2]; rfl
  have hq2 : (a0.toList == ([37] : List UInt8)) = false := by rw [(opIdx_inv hi).2]; rfl
  have HR : Hid ((opDo 3 a b) = (Go.bits .xor .i64 a b, 0)) := Lib.hid (by simp [opDo])
  clear hf hv hi
  go_enter Tryd.func14, Tryd.ntmps14
  go_wp2_with (first | (go_at_call 25; refine (HF.out _).mono ?_; rintro e w1 ⟨rfl, hb⟩) | go_in)
  go_ret2
  exact ⟨by rw [HR.out] <;> rfl, by repeat (first | exact hb | apply below_alloc)⟩

set_option maxHeartbeats 4000000 in
set_option maxRecDepth 100000 in
theorem bin_4 (a0 : ByteArray) (hi : opIdx a0.toList = some 4) (a b : Int) (w : World) :
    Calls Tryd.prog 14 #[.string a0, .int .i64 a, .int .i64 b] w fun e w' => e = .returned (.tuple #[.int .i64 (opDo 4 a b).1, .int .i64 (opDo 4 a b).2]) ∧ Below w.heap.size w w' := by
  have hu47 := Tryd.underlying47
  have hv : opV a0.toList = .agg #[.string (opT 4), .int .i64 5, .func (.func 35) #[] #[]] := by unfold opV; rw [hi]; rfl
  have hf := find_calls a0
  rw [hv, hi] at hf
  have HF := Lib.hid hf
  have hq1 : (a0.toList == ([47] : List UInt8)) = false := by rw [(opIdx_inv hi).2]; rfl
  have hq2 : (a0.toList == ([37] : List UInt8)) = false := by rw [(opIdx_inv hi).2]; rfl
  have HR : Hid ((opDo 4 a b) = (Go.bits .and .i64 a b, 0)) := Lib.hid (by simp [opDo])
  clear hf hv hi
  go_enter Tryd.func14, Tryd.ntmps14
  go_wp2_with (first | (go_at_call 25; refine (HF.out _).mono ?_; rintro e w1 ⟨rfl, hb⟩) | go_in)
  go_ret2
  exact ⟨by rw [HR.out] <;> rfl, by repeat (first | exact hb | apply below_alloc)⟩

set_option maxHeartbeats 4000000 in
set_option maxRecDepth 100000 in
theorem bin_5_1 (a0 : ByteArray) (hi : opIdx a0.toList = some 5) (a b : Int) (h1 : a = b) (w : World) :
    Calls Tryd.prog 14 #[.string a0, .int .i64 a, .int .i64 b] w fun e w' => e = .returned (.tuple #[.int .i64 (opDo 5 a b).1, .int .i64 (opDo 5 a b).2]) ∧ Below w.heap.size w w' := by
  have hu47 := Tryd.underlying47
  have hv : opV a0.toList = .agg #[.string (opT 5), .int .i64 6, .func (.func 27) #[] #[]] := by unfold opV; rw [hi]; rfl
  have hf := find_calls a0
  rw [hv, hi] at hf
  have HF := Lib.hid hf
  have hq1 : (a0.toList == ([47] : List UInt8)) = false := by rw [(opIdx_inv hi).2]; rfl
  have hq2 : (a0.toList == ([37] : List UInt8)) = false := by rw [(opIdx_inv hi).2]; rfl
  have HR : Hid ((opDo 5 a b) = (1, 0)) := Lib.hid (by simp [opDo, h1])
  have e_h1 : (a == b) = true := beq_iff_eq.2 h1
  have n_h1 : (a != b) = false := bne_eq_false_iff_eq.2 h1
  have Hh1 := Lib.hid h1
  clear h1
  clear hf hv hi
  go_enter Tryd.func14, Tryd.ntmps14
  go_wp2_with (first | (go_at_call 25; refine (HF.out _).mono ?_; rintro e w1 ⟨rfl, hb⟩) | go_in)
  go_ret2
  exact ⟨by rw [HR.out] <;> rfl, by repeat (first | exact hb | apply below_alloc)⟩

set_option maxHeartbeats 4000000 in
set_option maxRecDepth 100000 in
theorem bin_5_0 (a0 : ByteArray) (hi : opIdx a0.toList = some 5) (a b : Int) (h1 : ¬ a = b) (w : World) :
    Calls Tryd.prog 14 #[.string a0, .int .i64 a, .int .i64 b] w fun e w' => e = .returned (.tuple #[.int .i64 (opDo 5 a b).1, .int .i64 (opDo 5 a b).2]) ∧ Below w.heap.size w w' := by
  have hu47 := Tryd.underlying47
  have hv : opV a0.toList = .agg #[.string (opT 5), .int .i64 6, .func (.func 27) #[] #[]] := by unfold opV; rw [hi]; rfl
  have hf := find_calls a0
  rw [hv, hi] at hf
  have HF := Lib.hid hf
  have hq1 : (a0.toList == ([47] : List UInt8)) = false := by rw [(opIdx_inv hi).2]; rfl
  have hq2 : (a0.toList == ([37] : List UInt8)) = false := by rw [(opIdx_inv hi).2]; rfl
  have HR : Hid ((opDo 5 a b) = (0, 0)) := Lib.hid (by simp [opDo, h1])
  have e_h1 : (a == b) = false := beq_eq_false_iff_ne.2 h1
  have n_h1 : (a != b) = true := bne_iff_ne.2 h1
  have Hh1 := Lib.hid h1
  clear h1
  clear hf hv hi
  go_enter Tryd.func14, Tryd.ntmps14
  go_wp2_with (first | (go_at_call 25; refine (HF.out _).mono ?_; rintro e w1 ⟨rfl, hb⟩) | go_in)
  go_ret2
  exact ⟨by rw [HR.out] <;> rfl, by repeat (first | exact hb | apply below_alloc)⟩

set_option maxHeartbeats 4000000 in
set_option maxRecDepth 100000 in
theorem bin_6_1 (a0 : ByteArray) (hi : opIdx a0.toList = some 6) (a b : Int) (h1 : a = b) (w : World) :
    Calls Tryd.prog 14 #[.string a0, .int .i64 a, .int .i64 b] w fun e w' => e = .returned (.tuple #[.int .i64 (opDo 6 a b).1, .int .i64 (opDo 6 a b).2]) ∧ Below w.heap.size w w' := by
  have hu47 := Tryd.underlying47
  have hv : opV a0.toList = .agg #[.string (opT 6), .int .i64 6, .func (.func 36) #[] #[]] := by unfold opV; rw [hi]; rfl
  have hf := find_calls a0
  rw [hv, hi] at hf
  have HF := Lib.hid hf
  have hq1 : (a0.toList == ([47] : List UInt8)) = false := by rw [(opIdx_inv hi).2]; rfl
  have hq2 : (a0.toList == ([37] : List UInt8)) = false := by rw [(opIdx_inv hi).2]; rfl
  have HR : Hid ((opDo 6 a b) = (0, 0)) := Lib.hid (by simp [opDo, h1])
  have e_h1 : (a == b) = true := beq_iff_eq.2 h1
  have n_h1 : (a != b) = false := bne_eq_false_iff_eq.2 h1
  have Hh1 := Lib.hid h1
  clear h1
  clear hf hv hi
  go_enter Tryd.func14, Tryd.ntmps14
  go_wp2_with (first | (go_at_call 25; refine (HF.out _).mono ?_; rintro e w1 ⟨rfl, hb⟩) | go_in)
  go_ret2
  exact ⟨by rw [HR.out] <;> rfl, by repeat (first | exact hb | apply below_alloc)⟩

set_option maxHeartbeats 4000000 in
set_option maxRecDepth 100000 in
theorem bin_6_0 (a0 : ByteArray) (hi : opIdx a0.toList = some 6) (a b : Int) (h1 : ¬ a = b) (w : World) :
    Calls Tryd.prog 14 #[.string a0, .int .i64 a, .int .i64 b] w fun e w' => e = .returned (.tuple #[.int .i64 (opDo 6 a b).1, .int .i64 (opDo 6 a b).2]) ∧ Below w.heap.size w w' := by
  have hu47 := Tryd.underlying47
  have hv : opV a0.toList = .agg #[.string (opT 6), .int .i64 6, .func (.func 36) #[] #[]] := by unfold opV; rw [hi]; rfl
  have hf := find_calls a0
  rw [hv, hi] at hf
  have HF := Lib.hid hf
  have hq1 : (a0.toList == ([47] : List UInt8)) = false := by rw [(opIdx_inv hi).2]; rfl
  have hq2 : (a0.toList == ([37] : List UInt8)) = false := by rw [(opIdx_inv hi).2]; rfl
  have HR : Hid ((opDo 6 a b) = (1, 0)) := Lib.hid (by simp [opDo, h1])
  have e_h1 : (a == b) = false := beq_eq_false_iff_ne.2 h1
  have n_h1 : (a != b) = true := bne_iff_ne.2 h1
  have Hh1 := Lib.hid h1
  clear h1
  clear hf hv hi
  go_enter Tryd.func14, Tryd.ntmps14
  go_wp2_with (first | (go_at_call 25; refine (HF.out _).mono ?_; rintro e w1 ⟨rfl, hb⟩) | go_in)
  go_ret2
  exact ⟨by rw [HR.out] <;> rfl, by repeat (first | exact hb | apply below_alloc)⟩

set_option maxHeartbeats 4000000 in
set_option maxRecDepth 100000 in
theorem bin_7_1 (a0 : ByteArray) (hi : opIdx a0.toList = some 7) (a b : Int) (h1 : a < b) (w : World) :
    Calls Tryd.prog 14 #[.string a0, .int .i64 a, .int .i64 b] w fun e w' => e = .returned (.tuple #[.int .i64 (opDo 7 a b).1, .int .i64 (opDo 7 a b).2]) ∧ Below w.heap.size w w' := by
  have hu47 := Tryd.underlying47
  have hv : opV a0.toList = .agg #[.string (opT 7), .int .i64 7, .func (.func 37) #[] #[]] := by unfold opV; rw [hi]; rfl
  have hf := find_calls a0
  rw [hv, hi] at hf
  have HF := Lib.hid hf
  have hq1 : (a0.toList == ([47] : List UInt8)) = false := by rw [(opIdx_inv hi).2]; rfl
  have hq2 : (a0.toList == ([37] : List UInt8)) = false := by rw [(opIdx_inv hi).2]; rfl
  have HR : Hid ((opDo 7 a b) = (1, 0)) := Lib.hid (by simp [opDo, h1])
  have d_h1 : decide (a < b) = true := decide_eq_true h1
  clear hf hv hi
  go_enter Tryd.func14, Tryd.ntmps14
  go_wp2_with (first | (go_at_call 25; refine (HF.out _).mono ?_; rintro e w1 ⟨rfl, hb⟩) | go_in)
  go_ret2
  exact ⟨by rw [HR.out] <;> rfl, by repeat (first | exact hb | apply below_alloc)⟩

set_option maxHeartbeats 4000000 in
set_option maxRecDepth 100000 in
theorem bin_7_0 (a0 : ByteArray) (hi : opIdx a0.toList = some 7) (a b : Int) (h1 : ¬ a < b) (w : World) :
    Calls Tryd.prog 14 #[.string a0, .int .i64 a, .int .i64 b] w fun e w' => e = .returned (.tuple #[.int .i64 (opDo 7 a b).1, .int .i64 (opDo 7 a b).2]) ∧ Below w.heap.size w w' := by
  have hu47 := Tryd.underlying47
  have hv : opV a0.toList = .agg #[.string (opT 7), .int .i64 7, .func (.func 37) #[] #[]] := by unfold opV; rw [hi]; rfl
  have hf := find_calls a0
  rw [hv, hi] at hf
  have HF := Lib.hid hf
  have hq1 : (a0.toList == ([47] : List UInt8)) = false := by rw [(opIdx_inv hi).2]; rfl
  have hq2 : (a0.toList == ([37] : List UInt8)) = false := by rw [(opIdx_inv hi).2]; rfl
  have HR : Hid ((opDo 7 a b) = (0, 0)) := Lib.hid (by simp [opDo, h1])
  have d_h1 : decide (a < b) = false := decide_eq_false h1
  clear hf hv hi
  go_enter Tryd.func14, Tryd.ntmps14
  go_wp2_with (first | (go_at_call 25; refine (HF.out _).mono ?_; rintro e w1 ⟨rfl, hb⟩) | go_in)
  go_ret2
  exact ⟨by rw [HR.out] <;> rfl, by repeat (first | exact hb | apply below_alloc)⟩

set_option maxHeartbeats 4000000 in
set_option maxRecDepth 100000 in
theorem bin_8_1 (a0 : ByteArray) (hi : opIdx a0.toList = some 8) (a b : Int) (h1 : a ≤ b) (w : World) :
    Calls Tryd.prog 14 #[.string a0, .int .i64 a, .int .i64 b] w fun e w' => e = .returned (.tuple #[.int .i64 (opDo 8 a b).1, .int .i64 (opDo 8 a b).2]) ∧ Below w.heap.size w w' := by
  have hu47 := Tryd.underlying47
  have hv : opV a0.toList = .agg #[.string (opT 8), .int .i64 7, .func (.func 38) #[] #[]] := by unfold opV; rw [hi]; rfl
  have hf := find_calls a0
  rw [hv, hi] at hf
  have HF := Lib.hid hf
  have hq1 : (a0.toList == ([47] : List UInt8)) = false := by rw [(opIdx_inv hi).2]; rfl
  have hq2 : (a0.toList == ([37] : List UInt8)) = false := by rw [(opIdx_inv hi).2]; rfl
  have HR : Hid ((opDo 8 a b) = (1, 0)) := Lib.hid (by simp [opDo, h1])
  have d_h1 : decide (a ≤ b) = true := decide_eq_true h1
  clear hf hv hi
  go_enter Tryd.func14, Tryd.ntmps14
  go_wp2_with (first | (go_at_call 25; refine (HF.out _).mono ?_; rintro e w1 ⟨rfl, hb⟩) | go_in)
  go_ret2
  exact ⟨by rw [HR.out] <;> rfl, by repeat (first | exact hb | apply below_alloc)⟩

set_option maxHeartbeats 4000000 in
set_option maxRecDepth 100000 in
theorem bin_8_0 (a0 : ByteArray) (hi : opIdx a0.toList = some 8) (a b : Int) (h1 : ¬ a ≤ b) (w : World) :
    Calls Tryd.prog 14 #[.string a0, .int .i64 a, .int .i64 b] w fun e w' => e = .returned (.tuple #[.int .i64 (opDo 8 a b).1, .int .i64 (opDo 8 a b).2]) ∧ Below w.heap.size w w' := by
  have hu47 := Tryd.underlying47
  have hv : opV a0.toList = .agg #[.string (opT 8), .int .i64 7, .func (.func 38) #[] #[]] := by unfold opV; rw [hi]; rfl
  have hf := find_calls a0
  rw [hv, hi] at hf
  have HF := Lib.hid hf
  have hq1 : (a0.toList == ([47] : List UInt8)) = false := by rw [(opIdx_inv hi).2]; rfl
  have hq2 : (a0.toList == ([37] : List UInt8)) = false := by rw [(opIdx_inv hi).2]; rfl
  have HR : Hid ((opDo 8 a b) = (0, 0)) := Lib.hid (by simp [opDo, h1])
  have d_h1 : decide (a ≤ b) = false := decide_eq_false h1
  clear hf hv hi
  go_enter Tryd.func14, Tryd.ntmps14
  go_wp2_with (first | (go_at_call 25; refine (HF.out _).mono ?_; rintro e w1 ⟨rfl, hb⟩) | go_in)
  go_ret2
  exact ⟨by rw [HR.out] <;> rfl, by repeat (first | exact hb | apply below_alloc)⟩

set_option maxHeartbeats 4000000 in
set_option maxRecDepth 100000 in
theorem bin_9_1 (a0 : ByteArray) (hi : opIdx a0.toList = some 9) (a b : Int) (h1 : b < a) (w : World) :
    Calls Tryd.prog 14 #[.string a0, .int .i64 a, .int .i64 b] w fun e w' => e = .returned (.tuple #[.int .i64 (opDo 9 a b).1, .int .i64 (opDo 9 a b).2]) ∧ Below w.heap.size w w' := by
  have hu47 := Tryd.underlying47
  have hv : opV a0.toList = .agg #[.string (opT 9), .int .i64 7, .func (.func 39) #[] #[]] := by unfold opV; rw [hi]; rfl
  have hf := find_calls a0
  rw [hv, hi] at hf
  have HF := Lib.hid hf
  have hq1 : (a0.toList == ([47] : List UInt8)) = false := by rw [(opIdx_inv hi).2]; rfl
  have hq2 : (a0.toList == ([37] : List UInt8)) = false := by rw [(opIdx_inv hi).2]; rfl
  have HR : Hid ((opDo 9 a b) = (1, 0)) := Lib.hid (by simp [opDo, h1])
  have d_h1 : decide (b < a) = true := decide_eq_true h1
  clear hf hv hi
  go_enter Tryd.func14, Tryd.ntmps14
  go_wp2_with (first | (go_at_call 25; refine (HF.out _).mono ?_; rintro e w1 ⟨rfl, hb⟩) | go_in)
  go_ret2
  exact ⟨by rw [HR.out] <;> rfl, by repeat (first | exact hb | apply below_alloc)⟩

set_option maxHeartbeats 4000000 in
set_option maxRecDepth 100000 in
theorem bin_9_0 (a0 : ByteArray) (hi : opIdx a0.toList = some 9) (a b : Int) (h1 : ¬ b < a) (w : World) :
    Calls Tryd.prog 14 #[.string a0, .int .i64 a, .int .i64 b] w fun e w' => e = .returned (.tuple #[.int .i64 (opDo 9 a b).1, .int .i64 (opDo 9 a b).2]) ∧ Below w.heap.size w w' := by
  have hu47 := Tryd.underlying47
  have hv : opV a0.toList = .agg #[.string (opT 9), .int .i64 7, .func (.func 39) #[] #[]] := by unfold opV; rw [hi]; rfl
  have hf := find_calls a0
  rw [hv, hi] at hf
  have HF := Lib.hid hf
  have hq1 : (a0.toList == ([47] : List UInt8)) = false := by rw [(opIdx_inv hi).2]; rfl
  have hq2 : (a0.toList == ([37] : List UInt8)) = false := by rw [(opIdx_inv hi).2]; rfl
  have HR : Hid ((opDo 9 a b) = (0, 0)) := Lib.hid (by simp [opDo, h1])
  have d_h1 : decide (b < a) = false := decide_eq_false h1
  clear hf hv hi
  go_enter Tryd.func14, Tryd.ntmps14
  go_wp2_with (first | (go_at_call 25; refine (HF.out _).mono ?_; rintro e w1 ⟨rfl, hb⟩) | go_in)
  go_ret2
  exact ⟨by rw [HR.out] <;> rfl, by repeat (first | exact hb | apply below_alloc)⟩

set_option maxHeartbeats 4000000 in
set_option maxRecDepth 100000 in
theorem bin_10_1 (a0 : ByteArray) (hi : opIdx a0.toList = some 10) (a b : Int) (h1 : b ≤ a) (w : World) :
    Calls Tryd.prog 14 #[.string a0, .int .i64 a, .int .i64 b] w fun e w' => e = .returned (.tuple #[.int .i64 (opDo 10 a b).1, .int .i64 (opDo 10 a b).2]) ∧ Below w.heap.size w w' := by
  have hu47 := Tryd.underlying47
  have hv : opV a0.toList = .agg #[.string (opT 10), .int .i64 7, .func (.func 40) #[] #[]] := by unfold opV; rw [hi]; rfl
  have hf := find_calls a0
  rw [hv, hi] at hf
  have HF := Lib.hid hf
  have hq1 : (a0.toList == ([47] : List UInt8)) = false := by rw [(opIdx_inv hi).2]; rfl
  have hq2 : (a0.toList == ([37] : List UInt8)) = false := by rw [(opIdx_inv hi).2]; rfl
  have HR : Hid ((opDo 10 a b) = (1, 0)) := Lib.hid (by simp [opDo, h1])
  have d_h1 : decide (b ≤ a) = true := decide_eq_true h1
  clear hf hv hi
  go_enter Tryd.func14, Tryd.ntmps14
  go_wp2_with (first | (go_at_call 25; refine (HF.out _).mono ?_; rintro e w1 ⟨rfl, hb⟩) | go_in)
  go_ret2
  exact ⟨by rw [HR.out] <;> rfl, by repeat (first | exact hb | apply below_alloc)⟩

set_option maxHeartbeats 4000000 in
set_option maxRecDepth 100000 in
theorem bin_10_0 (a0 : ByteArray) (hi : opIdx a0.toList = some 10) (a b : Int) (h1 : ¬ b ≤ a) (w : World) :
    Calls Tryd.prog 14 #[.string a0, .int .i64 a, .int .i64 b] w fun e w' => e = .returned (.tuple #[.int .i64 (opDo 10 a b).1, .int .i64 (opDo 10 a b).2]) ∧ Below w.heap.size w w' := by
  have hu47 := Tryd.underlying47
  have hv : opV a0.toList = .agg #[.string (opT 10), .int .i64 7, .func (.func 40) #[] #[]] := by unfold opV; rw [hi]; rfl
  have hf := find_calls a0
  rw [hv, hi] at hf
  have HF := Lib.hid hf
  have hq1 : (a0.toList == ([47] : List UInt8)) = false := by rw [(opIdx_inv hi).2]; rfl
  have hq2 : (a0.toList == ([37] : List UInt8)) = false := by rw [(opIdx_inv hi).2]; rfl
  have HR : Hid ((opDo 10 a b) = (0, 0)) := Lib.hid (by simp [opDo, h1])
  have d_h1 : decide (b ≤ a) = false := decide_eq_false h1
  clear hf hv hi
  go_enter Tryd.func14, Tryd.ntmps14
  go_wp2_with (first | (go_at_call 25; refine (HF.out _).mono ?_; rintro e w1 ⟨rfl, hb⟩) | go_in)
  go_ret2
  exact ⟨by rw [HR.out] <;> rfl, by repeat (first | exact hb | apply below_alloc)⟩

set_option maxHeartbeats 4000000 in
set_option maxRecDepth 100000 in
theorem bin_11_lo (a0 : ByteArray) (hi : opIdx a0.toList = some 11) (a b : Int) (h1 : b < 0) (w : World) :
    Calls Tryd.prog 14 #[.string a0, .int .i64 a, .int .i64 b] w fun e w' => e = .returned (.tuple #[.int .i64 (opDo 11 a b).1, .int .i64 (opDo 11 a b).2]) ∧ Below w.heap.size w w' := by
  have hu47 := Tryd.underlying47
  have hv : opV a0.toList = .agg #[.string (opT 11), .int .i64 8, .func (.func 41) #[] #[]] := by unfold opV; rw [hi]; rfl
  have hf := find_calls a0
  rw [hv, hi] at hf
  have HF := Lib.hid hf
  have hq1 : (a0.toList == ([47] : List UInt8)) = false := by rw [(opIdx_inv hi).2]; rfl
  have hq2 : (a0.toList == ([37] : List UInt8)) = false := by rw [(opIdx_inv hi).2]; rfl
  have HR : Hid ((opDo 11 a b) = (0, 2)) := Lib.hid (by simp only [opDo]; rw [if_pos (by omega)])
  have d_h1 : decide (b < 0) = true := decide_eq_true h1
  clear hf hv hi
  go_enter Tryd.func14, Tryd.ntmps14
  go_wp2_with (first | (go_at_call 25; refine (HF.out _).mono ?_; rintro e w1 ⟨rfl, hb⟩) | go_in)
  go_ret2
  exact ⟨by rw [HR.out] <;> rfl, by repeat (first | exact hb | apply below_alloc)⟩

set_option maxHeartbeats 4000000 in
set_option maxRecDepth 100000 in
theorem bin_11_hi (a0 : ByteArray) (hi : opIdx a0.toList = some 11) (a b : Int) (h0 : 0 ≤ b) (h1 : 63 < b) (w : World) :
    Calls Tryd.prog 14 #[.string a0, .int .i64 a, .int .i64 b] w fun e w' => e = .returned (.tuple #[.int .i64 (opDo 11 a b).1, .int .i64 (opDo 11 a b).2]) ∧ Below w.heap.size w w' := by
  have hu47 := Tryd.underlying47
  have hv : opV a0.toList = .agg #[.string (opT 11), .int .i64 8, .func (.func 41) #[] #[]] := by unfold opV; rw [hi]; rfl
  have hf := find_calls a0
  rw [hv, hi] at hf
  have HF := Lib.hid hf
  have hq1 : (a0.toList == ([47] : List UInt8)) = false := by rw [(opIdx_inv hi).2]; rfl
  have hq2 : (a0.toList == ([37] : List UInt8)) = false := by rw [(opIdx_inv hi).2]; rfl
  have HR : Hid ((opDo 11 a b) = (0, 2)) := Lib.hid (by simp only [opDo]; rw [if_pos (by omega)])
  have hz : ¬ b < 0 := by omega
  have d_hz : decide (b < 0) = false := decide_eq_false hz
  have d_h1 : decide (63 < b) = true := decide_eq_true h1
  clear hf hv hi
  go_enter Tryd.func14, Tryd.ntmps14
  go_wp2_with (first | (go_at_call 25; refine (HF.out _).mono ?_; rintro e w1 ⟨rfl, hb⟩) | go_in)
  go_ret2
  exact ⟨by rw [HR.out] <;> rfl, by repeat (first | exact hb | apply below_alloc)⟩

set_option maxHeartbeats 4000000 in
set_option maxRecDepth 100000 in
theorem bin_11_in (a0 : ByteArray) (hi : opIdx a0.toList = some 11) (a b : Int) (h0 : 0 ≤ b) (h1 : b ≤ 63) (w : World) :
    Calls Tryd.prog 14 #[.string a0, .int .i64 a, .int .i64 b] w fun e w' => e = .returned (.tuple #[.int .i64 (opDo 11 a b).1, .int .i64 (opDo 11 a b).2]) ∧ Below w.heap.size w w' := by
  have hu47 := Tryd.underlying47
  have hv : opV a0.toList = .agg #[.string (opT 11), .int .i64 8, .func (.func 41) #[] #[]] := by unfold opV; rw [hi]; rfl
  have hf := find_calls a0
  rw [hv, hi] at hf
  have HF := Lib.hid hf
  have hq1 : (a0.toList == ([47] : List UInt8)) = false := by rw [(opIdx_inv hi).2]; rfl
  have hq2 : (a0.toList == ([37] : List UInt8)) = false := by rw [(opIdx_inv hi).2]; rfl
  have HR : Hid ((opDo 11 a b) = (wrap64 (a * 2 ^ b.toNat), 0)) := Lib.hid (by simp only [opDo]; rw [if_neg (by omega)])
  have hz : ¬ b < 0 := by omega
  have d_hz : decide (b < 0) = false := decide_eq_false hz
  have hy : ¬ 63 < b := by omega
  have d_hy : decide (63 < b) = false := decide_eq_false hy
  clear hf hv hi
  go_enter Tryd.func14, Tryd.ntmps14
  go_wp2_with (first | (go_at_call 25; refine (HF.out _).mono ?_; rintro e w1 ⟨rfl, hb⟩) | go_in)
  go_ret2
  exact ⟨by rw [HR.out] <;> rfl, by repeat (first | exact hb | apply below_alloc)⟩

set_option maxHeartbeats 4000000 in
set_option maxRecDepth 100000 in
theorem bin_12_lo (a0 : ByteArray) (hi : opIdx a0.toList = some 12) (a b : Int) (h1 : b < 0) (w : World) :
    Calls Tryd.prog 14 #[.string a0, .int .i64 a, .int .i64 b] w fun e w' => e = .returned (.tuple #[.int .i64 (opDo 12 a b).1, .int .i64 (opDo 12 a b).2]) ∧ Below w.heap.size w w' := by
  have hu47 := Tryd.underlying47
  have hv : opV a0.toList = .agg #[.string (opT 12), .int .i64 8, .func (.func 42) #[] #[]] := by unfold opV; rw [hi]; rfl
  have hf := find_calls a0
  rw [hv, hi] at hf
  have HF := Lib.hid hf
  have hq1 : (a0.toList == ([47] : List UInt8)) = false := by rw [(opIdx_inv hi).2]; rfl
  have hq2 : (a0.toList == ([37] : List UInt8)) = false := by rw [(opIdx_inv hi).2]; rfl
  have HR : Hid ((opDo 12 a b) = (0, 2)) := Lib.hid (by simp only [opDo]; rw [if_pos (by omega)])
  have d_h1 : decide (b < 0) = true := decide_eq_true h1
  clear hf hv hi
  go_enter Tryd.func14, Tryd.ntmps14
  go_wp2_with (first | (go_at_call 25; refine (HF.out _).mono ?_; rintro e w1 ⟨rfl, hb⟩) | go_in)
  go_ret2
  exact ⟨by rw [HR.out] <;> rfl, by repeat (first | exact hb | apply below_alloc)⟩

set_option maxHeartbeats 4000000 in
set_option maxRecDepth 100000 in
theorem bin_12_hi (a0 : ByteArray) (hi : opIdx a0.toList = some 12) (a b : Int) (h0 : 0 ≤ b) (h1 : 63 < b) (w : World) :
    Calls Tryd.prog 14 #[.string a0, .int .i64 a, .int .i64 b] w fun e w' => e = .returned (.tuple #[.int .i64 (opDo 12 a b).1, .int .i64 (opDo 12 a b).2]) ∧ Below w.heap.size w w' := by
  have hu47 := Tryd.underlying47
  have hv : opV a0.toList = .agg #[.string (opT 12), .int .i64 8, .func (.func 42) #[] #[]] := by unfold opV; rw [hi]; rfl
  have hf := find_calls a0
  rw [hv, hi] at hf
  have HF := Lib.hid hf
  have hq1 : (a0.toList == ([47] : List UInt8)) = false := by rw [(opIdx_inv hi).2]; rfl
  have hq2 : (a0.toList == ([37] : List UInt8)) = false := by rw [(opIdx_inv hi).2]; rfl
  have HR : Hid ((opDo 12 a b) = (0, 2)) := Lib.hid (by simp only [opDo]; rw [if_pos (by omega)])
  have hz : ¬ b < 0 := by omega
  have d_hz : decide (b < 0) = false := decide_eq_false hz
  have d_h1 : decide (63 < b) = true := decide_eq_true h1
  clear hf hv hi
  go_enter Tryd.func14, Tryd.ntmps14
  go_wp2_with (first | (go_at_call 25; refine (HF.out _).mono ?_; rintro e w1 ⟨rfl, hb⟩) | go_in)
  go_ret2
  exact ⟨by rw [HR.out] <;> rfl, by repeat (first | exact hb | apply below_alloc)⟩

set_option maxHeartbeats 4000000 in
set_option maxRecDepth 100000 in
theorem bin_12_in (a0 : ByteArray) (hi : opIdx a0.toList = some 12) (a b : Int) (h0 : 0 ≤ b) (h1 : b ≤ 63) (w : World) :
    Calls Tryd.prog 14 #[.string a0, .int .i64 a, .int .i64 b] w fun e w' => e = .returned (.tuple #[.int .i64 (opDo 12 a b).1, .int .i64 (opDo 12 a b).2]) ∧ Below w.heap.size w w' := by
  have hu47 := Tryd.underlying47
  have hv : opV a0.toList = .agg #[.string (opT 12), .int .i64 8, .func (.func 42) #[] #[]] := by unfold opV; rw [hi]; rfl
  have hf := find_calls a0
  rw [hv, hi] at hf
  have HF := Lib.hid hf
  have hq1 : (a0.toList == ([47] : List UInt8)) = false := by rw [(opIdx_inv hi).2]; rfl
  have hq2 : (a0.toList == ([37] : List UInt8)) = false := by rw [(opIdx_inv hi).2]; rfl
  have HR : Hid ((opDo 12 a b) = (a / 2 ^ b.toNat, 0)) := Lib.hid (by simp only [opDo]; rw [if_neg (by omega)])
  have hz : ¬ b < 0 := by omega
  have d_hz : decide (b < 0) = false := decide_eq_false hz
  have hy : ¬ 63 < b := by omega
  have d_hy : decide (63 < b) = false := decide_eq_false hy
  clear hf hv hi
  go_enter Tryd.func14, Tryd.ntmps14
  go_wp2_with (first | (go_at_call 25; refine (HF.out _).mono ?_; rintro e w1 ⟨rfl, hb⟩) | go_in)
  go_ret2
  exact ⟨by rw [HR.out] <;> rfl, by repeat (first | exact hb | apply below_alloc)⟩

set_option maxHeartbeats 4000000 in
set_option maxRecDepth 100000 in
theorem bin_13 (a0 : ByteArray) (hi : opIdx a0.toList = some 13) (a b : Int) (w : World) :
    Calls Tryd.prog 14 #[.string a0, .int .i64 a, .int .i64 b] w fun e w' => e = .returned (.tuple #[.int .i64 (opDo 13 a b).1, .int .i64 (opDo 13 a b).2]) ∧ Below w.heap.size w w' := by
  have hu47 := Tryd.underlying47
  have hv : opV a0.toList = .agg #[.string (opT 13), .int .i64 9, .func (.func 43) #[] #[]] := by unfold opV; rw [hi]; rfl
  have hf := find_calls a0
  rw [hv, hi] at hf
  have HF := Lib.hid hf
  have hq1 : (a0.toList == ([47] : List UInt8)) = false := by rw [(opIdx_inv hi).2]; rfl
  have hq2 : (a0.toList == ([37] : List UInt8)) = false := by rw [(opIdx_inv hi).2]; rfl
  have HR : Hid ((opDo 13 a b) = (wrap64 (a + b), 0)) := Lib.hid (by simp [opDo])
  clear hf hv hi
  go_enter Tryd.func14, Tryd.ntmps14
  go_wp2_with (first | (go_at_call 25; refine (HF.out _).mono ?_; rintro e w1 ⟨rfl, hb⟩) | go_in)
  go_ret2
  exact ⟨by rw [HR.out] <;> rfl, by repeat (first | exact hb | apply below_alloc)⟩

set_option maxHeartbeats 4000000 in
set_option maxRecDepth 100000 in
theorem bin_14 (a0 : ByteArray) (hi : opIdx a0.toList = some 14) (a b : Int) (w : World) :
    Calls Tryd.prog 14 #[.string a0, .int .i64 a, .int .i64 b] w fun e w' => e = .returned (.tuple #[.int .i64 (opDo 14 a b).1, .int .i64 (opDo 14 a b).2]) ∧ Below w.heap.size w w' := by
  have hu47 := Tryd.underlying47
  have hv : opV a0.toList = .agg #[.string (opT 14), .int .i64 9, .func (.func 44) #[] #[]] := by unfold opV; rw [hi]; rfl
  have hf := find_calls a0
  rw [hv, hi] at hf
  have HF := Lib.hid hf
  have hq1 : (a0.toList == ([47] : List UInt8)) = false := by rw [(opIdx_inv hi).2]; rfl
  have hq2 : (a0.toList == ([37] : List UInt8)) = false := by rw [(opIdx_inv hi).2]; rfl
  have HR : Hid ((opDo 14 a b) = (wrap64 (a - b), 0)) := Lib.hid (by simp [opDo])
  clear hf hv hi
  go_enter Tryd.func14, Tryd.ntmps14
  go_wp2_with (first | (go_at_call 25; refine (HF.out _).mono ?_; rintro e w1 ⟨rfl, hb⟩) | go_in)
  go_ret2
  exact ⟨by rw [HR.out] <;> rfl, by repeat (first | exact hb | apply below_alloc)⟩

set_option maxHeartbeats 4000000 in
set_option maxRecDepth 100000 in
theorem bin_15 (a0 : ByteArray) (hi : opIdx a0.toList = some 15) (a b : Int) (w : World) :
    Calls Tryd.prog 14 #[.string a0, .int .i64 a, .int .i64 b] w fun e w' => e = .returned (.tuple #[.int .i64 (opDo 15 a b).1, .int .i64 (opDo 15 a b).2]) ∧ Below w.heap.size w w' := by
  have hu47 := Tryd.underlying47
  have hv : opV a0.toList = .agg #[.string (opT 15), .int .i64 10, .func (.func 45) #[] #[]] := by unfold opV; rw [hi]; rfl
  have hf := find_calls a0
  rw [hv, hi] at hf
  have HF := Lib.hid hf
  have hq1 : (a0.toList == ([47] : List UInt8)) = false := by rw [(opIdx_inv hi).2]; rfl
  have hq2 : (a0.toList == ([37] : List UInt8)) = false := by rw [(opIdx_inv hi).2]; rfl
  have HR : Hid ((opDo 15 a b) = (wrap64 (a * b), 0)) := Lib.hid (by simp [opDo])
  clear hf hv hi
  go_enter Tryd.func14, Tryd.ntmps14
  go_wp2_with (first | (go_at_call 25; refine (HF.out _).mono ?_; rintro e w1 ⟨rfl, hb⟩) | go_in)
  go_ret2
  exact ⟨by rw [HR.out] <;> rfl, by repeat (first | exact hb | apply below_alloc)⟩

set_option maxHeartbeats 4000000 in
set_option maxRecDepth 100000 in
theorem bin_16_0 (a0 : ByteArray) (hi : opIdx a0.toList = some 16) (a b : Int) (h1 : b = 0) (w : World) :
    Calls Tryd.prog 14 #[.string a0, .int .i64 a, .int .i64 b] w fun e w' => e = .returned (.tuple #[.int .i64 (opDo 16 a b).1, .int .i64 (opDo 16 a b).2]) ∧ Below w.heap.size w w' := by
  have hu47 := Tryd.underlying47
  have hv : opV a0.toList = .agg #[.string (opT 16), .int .i64 10, .func (.func 46) #[] #[]] := by unfold opV; rw [hi]; rfl
  have hf := find_calls a0
  rw [hv, hi] at hf
  have HF := Lib.hid hf
  have hq1 : (a0.toList == ([47] : List UInt8)) = true := by rw [(opIdx_inv hi).2]; rfl
  have hq2 : (a0.toList == ([37] : List UInt8)) = false := by rw [(opIdx_inv hi).2]; rfl
  have HR : Hid ((opDo 16 a b) = (0, 1)) := Lib.hid (by simp [opDo, h1])
  have e_h1 : (b == 0) = true := beq_iff_eq.2 h1
  have n_h1 : (b != 0) = false := bne_eq_false_iff_eq.2 h1
  have Hh1 := Lib.hid h1
  clear h1
  clear hf hv hi
  go_enter Tryd.func14, Tryd.ntmps14
  go_wp2_with (first | (go_at_call 25; refine (HF.out _).mono ?_; rintro e w1 ⟨rfl, hb⟩) | go_in)
  go_ret2
  exact ⟨by rw [HR.out] <;> rfl, by repeat (first | exact hb | apply below_alloc)⟩

set_option maxHeartbeats 4000000 in
set_option maxRecDepth 100000 in
theorem bin_16_1 (a0 : ByteArray) (hi : opIdx a0.toList = some 16) (a b : Int) (h1 : ¬ b = 0) (w : World) :
    Calls Tryd.prog 14 #[.string a0, .int .i64 a, .int .i64 b] w fun e w' => e = .returned (.tuple #[.int .i64 (opDo 16 a b).1, .int .i64 (opDo 16 a b).2]) ∧ Below w.heap.size w w' := by
  have hu47 := Tryd.underlying47
  have hv : opV a0.toList = .agg #[.string (opT 16), .int .i64 10, .func (.func 46) #[] #[]] := by unfold opV; rw [hi]; rfl
  have hf := find_calls a0
  rw [hv, hi] at hf
  have HF := Lib.hid hf
  have hq1 : (a0.toList == ([47] : List UInt8)) = true := by rw [(opIdx_inv hi).2]; rfl
  have hq2 : (a0.toList == ([37] : List UInt8)) = false := by rw [(opIdx_inv hi).2]; rfl
  have HR : Hid ((opDo 16 a b) = (wrap64 (Int.tdiv a b), 0)) := Lib.hid (by simp [opDo, h1])
  have e_h1 : (b == 0) = false := beq_eq_false_iff_ne.2 h1
  have n_h1 : (b != 0) = true := bne_iff_ne.2 h1
  have h1' := h1
  clear hf hv hi
  go_enter Tryd.func14, Tryd.ntmps14
  go_wp2_with (first | (go_at_call 25; refine (HF.out _).mono ?_; rintro e w1 ⟨rfl, hb⟩) | go_in)
  go_ret2
  exact ⟨by rw [HR.out] <;> rfl, by repeat (first | exact hb | apply below_alloc)⟩

set_option maxHeartbeats 4000000 in
set_option maxRecDepth 100000 in
theorem bin_17_0 (a0 : ByteArray) (hi : opIdx a0.toList = some 17) (a b : Int) (h1 : b = 0) (w : World) :
    Calls Tryd.prog 14 #[.string a0, .int .i64 a, .int .i64 b] w fun e w' => e = .returned (.tuple #[.int .i64 (opDo 17 a b).1, .int .i64 (opDo 17 a b).2]) ∧ Below w.heap.size w w' := by
  have hu47 := Tryd.underlying47
  have hv : opV a0.toList = .agg #[.string (opT 17), .int .i64 10, .func (.func 47) #[] #[]] := by unfold opV; rw [hi]; rfl
  have hf := find_calls a0
  rw [hv, hi] at hf
  have HF := Lib.hid hf
  have hq1 : (a0.toList == ([47] : List UInt8)) = false := by rw [(opIdx_inv hi).2]; rfl
  have hq2 : (a0.toList == ([37] : List UInt8)) = true := by rw [(opIdx_inv hi).2]; rfl
  have HR : Hid ((opDo 17 a b) = (0, 1)) := Lib.hid (by simp [opDo, h1])
  have e_h1 : (b == 0) = true := beq_iff_eq.2 h1
  have n_h1 : (b != 0) = false := bne_eq_false_iff_eq.2 h1
  have Hh1 := Lib.hid h1
  clear h1
  clear hf hv hi
  go_enter Tryd.func14, Tryd.ntmps14
  go_wp2_with (first | (go_at_call 25; refine (HF.out _).mono ?_; rintro e w1 ⟨rfl, hb⟩) | go_in)
  go_ret2
  exact ⟨by rw [HR.out] <;> rfl, by repeat (first | exact hb | apply below_alloc)⟩

set_option maxHeartbeats 4000000 in
set_option maxRecDepth 100000 in
theorem bin_17_1 (a0 : ByteArray) (hi : opIdx a0.toList = some 17) (a b : Int) (h1 : ¬ b = 0) (w : World) :
    Calls Tryd.prog 14 #[.string a0, .int .i64 a, .int .i64 b] w fun e w' => e = .returned (.tuple #[.int .i64 (opDo 17 a b).1, .int .i64 (opDo 17 a b).2]) ∧ Below w.heap.size w w' := by
  have hu47 := Tryd.underlying47
  have hv : opV a0.toList = .agg #[.string (opT 17), .int .i64 10, .func (.func 47) #[] #[]] := by unfold opV; rw [hi]; rfl
  have hf := find_calls a0
  rw [hv, hi] at hf
  have HF := Lib.hid hf
  have hq1 : (a0.toList == ([47] : List UInt8)) = false := by rw [(opIdx_inv hi).2]; rfl
  have hq2 : (a0.toList == ([37] : List UInt8)) = true := by rw [(opIdx_inv hi).2]; rfl
  have HR : Hid ((opDo 17 a b) = (Int.tmod a b, 0)) := Lib.hid (by simp [opDo, h1])
  have e_h1 : (b == 0) = false := beq_eq_false_iff_ne.2 h1
  have n_h1 : (b != 0) = true := bne_iff_ne.2 h1
  have h1' := h1
  clear hf hv hi
  go_enter Tryd.func14, Tryd.ntmps14
  go_wp2_with (first | (go_at_call 25; refine (HF.out _).mono ?_; rintro e w1 ⟨rfl, hb⟩) | go_in)
  go_ret2
  exact ⟨by rw [HR.out] <;> rfl, by repeat (first | exact hb | apply below_alloc)⟩

end Go.Proofs.YtlkabncoaijepaaDoor.X
