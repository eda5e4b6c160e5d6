/- The ideal machine: the words' numbers: lex.value, by contracts of the kit. -/
import Derived.Test.YtalnancndjgmgaaGreatDoorImBas
import Derived.Lib.AppendIntMem
import Derived.Laws.IdiomStrings
import Derived.WalkKit
import Derived.BigCall
import Derived.BigGuard
namespace Go.Im
set_option linter.unusedVariables false
open Go.RowKit Go.Proofs Go.Sort Go.Lib
namespace E
set_option maxHeartbeats 6400000 in
set_option maxRecDepth 100000 in
theorem fmtU_small (i : Nat) (hi : i < 100) (w : World) :
    Calls Tryz.prog 140 #[.int .u64 i, .int .i64 10] w fun e w' => e = .returned (.string ⟨(Lib.decDigits i).toArray⟩) ∧ w' = w := by
  have hi' : (i : Int) < 100 := by omega
  have hwr : IntKind.i64.wrap (i : Int) = (i : Int) := by rw [IntKind.wrap_i64]; omega
  go_enter Tryz.func140, Tryz.ntmps140
  go_wp2_with (first | (go_at_call 123; refine (Tryz.internal_strconv_small i hi _).mono ?_; rintro e w' ⟨rfl, rfl⟩) | go_in)
  go_ret
  exact ⟨rfl, rfl⟩
set_option maxHeartbeats 6400000 in
set_option maxRecDepth 100000 in
theorem fmtU_big (u : Nat) (hu : 100 ≤ u) (hu64 : u < 18446744073709551616) (w : World) (htab : Lib.TabIs Tryz.prog w "internal/strconv.uint64pow10" .u64 Lib.pow10Tab) :
    Calls Tryz.prog 140 #[.int .u64 u, .int .i64 10] w fun e w' => e = .returned (.string ⟨(Lib.decDigits u).toArray⟩) ∧ ∃ k os, w' = grow (w.drewN k) os := by
  have hu1 : 1 ≤ u := by omega
  have hnd20 : Lib.nDigits u ≤ 20 := by have := Lib.numDigits_eq u hu1 hu64; split at this <;> omega
  have hal : Tryz.prog.arrayLen 164 = 24 := by simp [Program.arrayLen, Tryz.underlying164]
  have hsl : ∀ W, (Instr.sliceAt 164 (.pointer (some ⟨w.heap.size, 0, none⟩)) none (some (.int .i64 (Lib.nDigits u : Int))) none).run Tryz.prog W = .ok (.slice (some ⟨w.heap.size, 0, none⟩) (Lib.nDigits u) 24) W := fun W => by
    rw [run_sliceAt_array_h W 164 ⟨w.heap.size, 0, none⟩ (by simp [Program.arrayLen, Program.elem, Tryz.underlying164]) .i64 (Lib.nDigits u : Int) (by omega) (by rw [hal]; omega)]
    go_simp
  have hH0 := Lib.holds_zero0 w 164 (Lib.nDigits u) (by omega)
  have hfmt := Tryz.internal_strconv_formatBase10 w.heap.size 0 24 u (Array.replicate (Lib.nDigits u) 0) (w.alloc (.cells Lib.zeros24 164)) hH0 (by rw [Array.size_replicate]; exact Lib.lt_pow_nDigits u) hu64 (by rw [Array.size_replicate]; omega)
  rw [Array.size_replicate] at hfmt
  have HH0 := Lib.hid hH0
  have iu : (100 : Int) ≤ (u : Int) := by omega
  clear hH0 hal
  go_enter Tryz.func140, Tryz.ntmps140
  go_wp2_with (go_at_call 124; refine (Tryz.internal_strconv_numDigits u hu1 hu64 _ (Lib.tabIs_alloc htab _)).mono ?_; rintro e w' ⟨rfl, rfl⟩)
  go_at_call 125
  refine hfmt.mono ?_
  rintro e w' ⟨rfl, k, v', dk, rfl, hF⟩
  have hcv : (convert 43 9 (.slice (some ⟨w.heap.size, 0, none⟩) (Lib.nDigits u) 24)).run Tryz.prog ((putRow (fun (b : UInt8) => Value.int .u8 (b.toNat : Int)) (w.alloc (.cells Lib.zeros24 164)) w.heap.size 0 dk).drewN k) = .ok (.string ⟨(Lib.decDigits u).toArray⟩) ((putRow (fun (b : UInt8) => Value.int .u8 (b.toNat : Int)) (w.alloc (.cells Lib.zeros24 164)) w.heap.size 0 dk).drewN k) := by
    have h := run_convert_bytes_back (P := Tryz.prog) ((putRow (fun (b : UInt8) => Value.int .u8 (b.toNat : Int)) (w.alloc (.cells Lib.zeros24 164)) w.heap.size 0 dk).drewN k) 43 9 5 ⟨w.heap.size, 0, none⟩ 24 (Lib.decDigits u) Tryz.underlying43 Tryz.underlying5 Tryz.underlying9 (fun j hj => by
      rw [Lib.row_is_numeral hF j hj, Lib.add_plain, World.cell?_drewN]
      exact cell?_putRow (fun (b : UInt8) => Value.int .u8 (b.toNat : Int)) _ w.heap.size 0 _ dk HH0.out (by rw [hF.size, Array.size_replicate]) j (by rw [hF.size]; rw [Lib.decDigits_length] at hj; exact hj))
    rw [Lib.decDigits_length] at h
    exact h
  go_wp2
  go_ret
  obtain ⟨os, eo⟩ := Lib.fin_at w (.cells Lib.zeros24 164) dk k 0
  exact ⟨rfl, k, os, eo⟩
theorem fmtU (u : Nat) (hu64 : u < 18446744073709551616) (w : World) (htab : Lib.TabIs Tryz.prog w "internal/strconv.uint64pow10" .u64 Lib.pow10Tab) :
    Calls Tryz.prog 129 #[.int .u64 u, .int .i64 10] w fun e w' => e = .returned (.string ⟨(Lib.decDigits u).toArray⟩) ∧ Below w.heap.size w w' := by
  have h : Calls Tryz.prog 140 #[.int .u64 u, .int .i64 10] w fun e w' => e = .returned (.string ⟨(Lib.decDigits u).toArray⟩) ∧ Below w.heap.size w w' := by
    by_cases hs : u < 100
    · exact (fmtU_small u hs w).mono fun e w' ⟨he, hw⟩ => ⟨he, hw ▸ Below.refl _ _⟩
    · exact (fmtU_big u (by omega) hu64 w htab).mono fun e w' ⟨he, k, os, hw⟩ => ⟨he, hw ▸ Lib.below_grow _ _ (Nat.le_refl _) _ _⟩
  go_enter Tryz.func129, Tryz.ntmps129
  go_wp2_with (go_at_call 140; refine h.mono ?_; rintro e w' ⟨rfl, hb⟩)
  go_ret
  exact ⟨rfl, hb⟩
/-- The number that digits are, if they are its own, and it is at most so much. -/
def valF (l : List UInt8) (most : Int) : Int × Bool := match Lib.parseUintB 64 l with
  | .ok u => bif decide ((u : Int) ≤ most) && (decF 20 u == l) then ((u : Int), true) else (0, false)
  | _ => (0, false)
def value (b : ByteArray) (most : Int) : Option (Int × Bool) := bif decide (b.size ≤ 281474976710656) then some (valF b.data.toList most) else none
theorem valF_range (l : List UInt8) (most : Int) : 0 ≤ (valF l most).1 ∧ (valF l most).1 ≤ 18446744073709551615 := by
  unfold valF
  split
  · rename_i u hu
    have := Lib.parseUintB_le hu
    have h64 : (2 : Nat) ^ 64 - 1 = 18446744073709551615 := rfl
    rw [h64] at this
    cases decide ((u : Int) ≤ most) && (decF 20 u == l)
    · exact ⟨Int.le_refl _, by show (0 : Int) ≤ _; decide⟩
    · exact ⟨by show (0 : Int) ≤ (u : Int); omega, by show (u : Int) ≤ _; omega⟩
  · exact ⟨Int.le_refl _, by decide⟩
set_option maxHeartbeats 6400000 in
set_option maxRecDepth 100000 in
theorem value_calls (s : ByteArray) (most : Int) (hs : s.size ≤ 281474976710656) (w : World) (hg : GW w) :
    Calls Tryz.prog 112 #[.string s, .int .u64 most] w fun e w' => e = .returned (.tuple #[.int .u64 (valF s.data.toList most).1, .bool (valF s.data.toList most).2]) ∧ Below w.heap.size w w' := by
  obtain ⟨htab, ⟨ts, ps, hS⟩, ⟨tr, pr, hR⟩⟩ := hg
  cases h : Lib.parseUintB 64 s.data.toList with
  | ok u =>
    have hle := Lib.parseUintB_le h
    have h64 : (2 : Nat) ^ 64 - 1 = 18446744073709551615 := rfl
    rw [h64] at hle
    have hv : valF s.data.toList most = bif decide ((u : Int) ≤ most) && (decF 20 u == s.data.toList) then ((u : Int), true) else (0, false) := by unfold valF; rw [h]
    rw [hv]
    clear hv
    have hP := Tryz.strconv_ParseUint_10_at64_ok s (by omega) u h w
    have HP := Lib.hid hP
    clear hP h
    by_cases hm : (u : Int) ≤ most
    · have hF := fun w' hb => fmtU u (by omega) w' ((Lib.tabBelow_of_tabIs htab) w' hb)
      have HF := Lib.hid hF
      clear hF
      by_cases he : decF 20 u = s.data.toList
      · have hcond : (bif decide ((u : Int) ≤ most) && (decF 20 u == s.data.toList) then ((u : Int), true) else (0, false)) = ((u : Int), true) := by rw [decide_eq_true hm, he, beq_self_eq_true]; rfl
        have hse : (⟨(Lib.decDigits u).toArray⟩ : ByteArray) = s := by
          rw [← decF_eq 20 u (by omega), he]
        rw [hcond]
        clear hcond
        have hm' : ¬ most < (u : Int) := by omega
        go_enter Tryz.func112, Tryz.ntmps112
        go_wp2_with (go_at_call 128; refine HP.out.mono ?_; rintro e w1 ⟨rfl, hb1⟩)
        have hw1 : Below w.heap.size w w1 := by
          rcases hb1 with rfl | rfl
          · exact Below.refl _ _
          · exact Lib.bytesWorld_below _ _ _
        clear hb1
        go_wp2_with (go_at_call 129; refine (HF.out _ hw1).mono ?_; rintro e w2 ⟨rfl, hb2⟩)
        go_ret2
        exact ⟨rfl, hw1.trans (hb2.mono hw1.size)⟩
      · have hcond : (bif decide ((u : Int) ≤ most) && (decF 20 u == s.data.toList) then ((u : Int), true) else (0, false)) = ((0 : Int), false) := by rw [decide_eq_true hm, beq_false_of_ne he]; rfl
        have hse : (Lib.decDigits u == s.toList) = false := beq_false_of_ne fun h => he (by rw [decF_eq 20 u (by omega), h, ByteArray.toList_eq])
        rw [hcond]
        clear hcond
        have hm' : ¬ most < (u : Int) := by omega
        go_enter Tryz.func112, Tryz.ntmps112
        go_wp2_with (go_at_call 128; refine HP.out.mono ?_; rintro e w1 ⟨rfl, hb1⟩)
        have hw1 : Below w.heap.size w w1 := by
          rcases hb1 with rfl | rfl
          · exact Below.refl _ _
          · exact Lib.bytesWorld_below _ _ _
        clear hb1
        go_wp2_with (go_at_call 129; refine (HF.out _ hw1).mono ?_; rintro e w2 ⟨rfl, hb2⟩)
        all_goals first
          | (go_ret2; exact ⟨rfl, hw1.trans (hb2.mono hw1.size)⟩)
          | (exfalso; rename_i h; simp [hse] at h)
    · have hcond : (bif decide ((u : Int) ≤ most) && (decF 20 u == s.data.toList) then ((u : Int), true) else (0, false)) = ((0 : Int), false) := by rw [decide_eq_false hm]; rfl
      rw [hcond]
      clear hcond
      have hm' : most < (u : Int) := by omega
      go_enter Tryz.func112, Tryz.ntmps112
      go_wp2_with (go_at_call 128; refine HP.out.mono ?_; rintro e w1 ⟨rfl, hb1⟩)
      have hw1 : Below w.heap.size w w1 := by
        rcases hb1 with rfl | rfl
        · exact Below.refl _ _
        · exact Lib.bytesWorld_below _ _ _
      clear hb1
      go_wp2
      go_ret2
      exact ⟨rfl, hw1⟩
  | «syntax» =>
    have hv : valF s.data.toList most = (0, false) := by unfold valF; rw [h]
    rw [hv]
    clear hv
    have HP := Lib.hid (Tryz.strconv_ParseUint_10_at64_syntax_var s hs h ts ps w hS)
    clear h
    go_enter Tryz.func112, Tryz.ntmps112
    go_wp2_with (go_at_call 128; refine HP.out.mono ?_; rintro e w1 ⟨N, rfl, hN, _, hw1⟩)
    go_wp2
    go_ret2
    exact ⟨rfl, hw1⟩
  | range =>
    have hv : valF s.data.toList most = (0, false) := by unfold valF; rw [h]
    rw [hv]
    clear hv
    have HP := Lib.hid (Tryz.strconv_ParseUint_10_at64_range_var s hs h tr pr w hR)
    clear h
    go_enter Tryz.func112, Tryz.ntmps112
    go_wp2_with (go_at_call 128; refine HP.out.mono ?_; rintro e w1 ⟨N, rfl, hN, _, hw1⟩)
    go_wp2
    go_ret2
    exact ⟨rfl, hw1⟩
theorem value_sim {b : ByteArray} {most : Int} {r : Int × Bool} (h : value b most = some r) (s s' s2 s3 : Bool) : Sim Go.Proofs.Tryz.prog 112 [.str s b, .int s' .u64 most] [] (.tup [.int s2 .u64 r.1, .bool s3 r.2]) [] := by
  obtain ⟨hk, h⟩ := guard_some h
  cases h
  have hr := valF_range b.data.toList most
  exact sim_sc (vals := [.string b, .int .u64 most]) (fun X w xs hl hx => sc2 (fun y hy => vr_str hy) (fun y hy => vr_int hy) hl hx) (r := .tuple #[.int .u64 (valF b.data.toList most).1, .bool (valF b.data.toList most).2]) (fun hp own ρ => .tup _ _ rfl fun j v x hj hx => by
    match j with
    | 0 => simp at hj hx; subst hj hx; exact .imm _ _ (.int _ _ _ (inK_spec.2 ⟨hr.1, hr.2⟩))
    | 1 => simp at hj hx; subst hj hx; exact .imm _ _ (.bool _ _)
    | j + 2 => simp at hj) fun w hg =>
    value_calls b most (of_decide_eq_true hk) w hg
end E
end Go.Im
