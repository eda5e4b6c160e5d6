import Derived.Test.YtlkabncoaijepaaDoorTextsPre
import Derived.Deep.RegionHeld3
namespace Go.Proofs.YtlkabncoaijepaaDoor.X
open Go.RowKit Go.Proofs.YtlkabncoaijepaaDoor.Bits Go.Proofs.YtlkabncoaijepaaDoor.Pure Go.Proofs.YtlkabncoaijepaaDoor.PAll Go.Proofs.YtlkabncoaijepaaDoorW.PrintWords Go.Proofs.YtlkabncoaijepaaDoorW.PrintLast Go.Proofs.YtlkabncoaijepaaDoorW.PrintMore
set_option linter.unusedVariables false
set_option linter.unusedSimpArgs false

theorem ext1 (ds : List UInt8) : (⟨(45 :: ds).toArray⟩ : ByteArray).extract 1 (ds.length + 1) = ⟨ds.toArray⟩ := by
  apply ByteArray.ext
  simp [ByteArray.data_extract]
theorem bt {w3 p w1 : World} (h : Below w3.heap.size w3 p) (h1 : Below p.heap.size p w1) : Below w3.heap.size w3 w1 := h.trans (h1.mono h.size)
set_option maxHeartbeats 4000000 in
set_option maxRecDepth 100000 in
theorem texts_neg (a0 x n : Int) (s1 s2 : ByteArray) (k : Nat) (d0 : Int) (w : World) (hG : GL w) (hnear : billhooklaw01_near.f a0 x = some n) (htext : word_Text.f n = some s1)
    (q1 : s1.toList.isEmpty = false) (hz : s1.size = k + 1) (h0 : ∀ h, (s1[0]'h).toNat = 45) (hx : s1.extract 1 (k + 1) = s2) (q2 : s2.toList.isEmpty = false) (hz2 : s2.size = k) (i0 : ∀ h, ((s2[0]'h).toNat : Int) = d0)
    (M d : Nat → Int) (hM0 : M 0 = 0) (hM : ∀ j, j < k → M (j + 1) = wrap64 (wrap64 (M j * 10) + (d j - 48))) (hd : ∀ j, j < k → 48 ≤ d j ∧ d j ≤ 57 ∧ ∀ h, ((s2[j]'h).toNat : Int) = d j) (hn : n < 0) (hfin : wrap64 (0 - M k) = n) (hk64 : k ≤ 40) (hh : k = 1 ∨ 1 < k ∧ (d0 == 48) = false) :
    Calls Tryd.prog 8 #[.int .i64 a0, .int .u8 x] w fun e w' => e = .returned (.bool true) ∧ Below w.heap.size w w' := by
  have HG := Lib.hid hG
  have HN := Lib.hid hnear
  have HT := Lib.hid htext
  have HM := Lib.hid hM0; have HMS := Lib.hid hM; have HD := Lib.hid hd; have HF := Lib.hid hfin
  clear hG hnear htext hM0 hM hd hfin
  rcases hh with hk1 | ⟨hr, hc⟩
  · have hk : ¬ (1 : Int) < (k : Int) := by omega
    have hk2 : 0 < k := by omega
    clear hk1
    go_enter Tryd.func8, Tryd.ntmps8
    go_upto_region 13 with (first
      | (go_at_call 11; refine (billhooklaw01_examples.calls true _ HG.out rfl).mono ?_; rintro e w1 ⟨rfl, hb1⟩; (have HG1 := Lib.hid (GL.below HG.out hb1)))
      | (go_at_call 13; refine (billhooklaw01_near.calls _ _ _ _ HN.out).mono ?_; rintro e w2 ⟨rfl, hb2⟩; (have HG2 := Lib.hid (GL.below HG1.out hb2)))
      | (go_at_call 22; refine (word_Text.calls _ _ _ HG2.out HT.out).mono ?_; rintro e w3 ⟨rfl, hb3⟩)
      | go_in)
    go_wp2
    go_loopw [8, 9] (fun m i wr => ∃ j : Nat, j ≤ k ∧ i = .int .i64 j ∧ m = .int .i64 (M j) ∧ Below w.heap.size w wr) (fun m i _ => k - (intOf i).toNat)
    case atStart => exact ⟨0, by omega, rfl, by rw [HM.out], hb1.trans ((hb2.mono hb1.size).trans (hb3.mono (Nat.le_trans hb1.size hb2.size)))⟩
    case round =>
      obtain ⟨j, hj, rfl, rfl, hB⟩ := hrel
      have HB := Lib.hid hB
      clear hB
      by_cases hlt : j < k
      · obtain ⟨d1, d2, d3⟩ := HD.out j hlt
        have b1 : decide (d j < 48) = false := decide_eq_false (by omega)
        have b2 : decide (d j > 57) = false := decide_eq_false (by omega)
        have u1 : IntKind.u8.wrap (d j - 48) = d j - 48 := by simp [IntKind.wrap, IntKind.bits, IntKind.signed]; omega
        have u2 : wrap64 (d j - 48) = d j - 48 := wrap_in (by omega) (by omega)
        have u3 : IntKind.i64.wrap (d j - 48) = d j - 48 := by rw [wrap_is, u2]
        have hji : (j : Int) < (k : Int) := by omega
        go_upto_region 19 with fail
        go_region_held3 (fun w' => Below w.heap.size w w')
          (first
            | assumption
            | exact HB.out
            | exact HB.out.drew
            | fail)
          (first
            | (go_at_call 24; (first | (with_reducible refine (billhooklaw01_do.calls _ _ _ _ _ (do_mul (M j) 10)).mono ?_) | (with_reducible refine (billhooklaw01_do.calls _ _ _ _ _ (do_add (wrap64 (M j * 10)) (d j - 48))).mono ?_)); rintro e w5 ⟨rfl, hb5⟩; (have HB := Lib.hid (bt (by first | exact HB.out | exact HB.out.drew) hb5))))
        all_goals (go_wp2; exact ⟨⟨j + 1, by omega, by go_num, by rw [HMS.out j hlt], HB.out⟩, by simp [intOf]; omega⟩)
      · have hji : ¬ (j : Int) < (k : Int) := by omega
        have hjk : j = k := by omega
        have hnn : decide (n < 0) = true := decide_eq_true hn
        go_wp2_with (first | (go_at_call 24; refine (billhooklaw01_do.calls _ _ _ n _ (by rw [do_sub, HF.out])).mono ?_; rintro e w5 ⟨rfl, hb5⟩))
        go_ret
        exact ⟨rfl, bt HB.out hb5⟩
  · have hk : (1 : Int) < (k : Int) := by omega
    have hk2 : 0 < k := by omega
    go_enter Tryd.func8, Tryd.ntmps8
    go_upto_region 13 with (first
      | (go_at_call 11; refine (billhooklaw01_examples.calls true _ HG.out rfl).mono ?_; rintro e w1 ⟨rfl, hb1⟩; (have HG1 := Lib.hid (GL.below HG.out hb1)))
      | (go_at_call 13; refine (billhooklaw01_near.calls _ _ _ _ HN.out).mono ?_; rintro e w2 ⟨rfl, hb2⟩; (have HG2 := Lib.hid (GL.below HG1.out hb2)))
      | (go_at_call 22; refine (word_Text.calls _ _ _ HG2.out HT.out).mono ?_; rintro e w3 ⟨rfl, hb3⟩)
      | go_in)
    go_wp2
    go_loopw [8, 9] (fun m i wr => ∃ j : Nat, j ≤ k ∧ i = .int .i64 j ∧ m = .int .i64 (M j) ∧ Below w.heap.size w wr) (fun m i _ => k - (intOf i).toNat)
    case atStart => exact ⟨0, by omega, rfl, by rw [HM.out], hb1.trans ((hb2.mono hb1.size).trans (hb3.mono (Nat.le_trans hb1.size hb2.size)))⟩
    case round =>
      obtain ⟨j, hj, rfl, rfl, hB⟩ := hrel
      have HB := Lib.hid hB
      clear hB
      by_cases hlt : j < k
      · obtain ⟨d1, d2, d3⟩ := HD.out j hlt
        have b1 : decide (d j < 48) = false := decide_eq_false (by omega)
        have b2 : decide (d j > 57) = false := decide_eq_false (by omega)
        have u1 : IntKind.u8.wrap (d j - 48) = d j - 48 := by simp [IntKind.wrap, IntKind.bits, IntKind.signed]; omega
        have u2 : wrap64 (d j - 48) = d j - 48 := wrap_in (by omega) (by omega)
        have u3 : IntKind.i64.wrap (d j - 48) = d j - 48 := by rw [wrap_is, u2]
        have hji : (j : Int) < (k : Int) := by omega
        go_upto_region 19 with fail
        go_region_held3 (fun w' => Below w.heap.size w w')
          (first
            | assumption
            | exact HB.out
            | exact HB.out.drew
            | fail)
          (first
            | (go_at_call 24; (first | (with_reducible refine (billhooklaw01_do.calls _ _ _ _ _ (do_mul (M j) 10)).mono ?_) | (with_reducible refine (billhooklaw01_do.calls _ _ _ _ _ (do_add (wrap64 (M j * 10)) (d j - 48))).mono ?_)); rintro e w5 ⟨rfl, hb5⟩; (have HB := Lib.hid (bt (by first | exact HB.out | exact HB.out.drew) hb5))))
        all_goals (go_wp2; exact ⟨⟨j + 1, by omega, by go_num, by rw [HMS.out j hlt], HB.out⟩, by simp [intOf]; omega⟩)
      · have hji : ¬ (j : Int) < (k : Int) := by omega
        have hjk : j = k := by omega
        have hnn : decide (n < 0) = true := decide_eq_true hn
        go_wp2_with (first | (go_at_call 24; refine (billhooklaw01_do.calls _ _ _ n _ (by rw [do_sub, HF.out])).mono ?_; rintro e w5 ⟨rfl, hb5⟩))
        go_ret
        exact ⟨rfl, bt HB.out hb5⟩
set_option maxHeartbeats 4000000 in
set_option maxRecDepth 100000 in
theorem texts_pos (a0 x n : Int) (s1 : ByteArray) (k : Nat) (d0 : Int) (w : World) (hG : GL w) (hnear : billhooklaw01_near.f a0 x = some n) (htext : word_Text.f n = some s1)
    (q1 : s1.toList.isEmpty = false) (hz2 : s1.size = k) (h45 : (d0 == 45) = false) (i0 : ∀ h, ((s1[0]'h).toNat : Int) = d0)
    (M d : Nat → Int) (hM0 : M 0 = 0) (hM : ∀ j, j < k → M (j + 1) = wrap64 (wrap64 (M j * 10) + (d j - 48))) (hd : ∀ j, j < k → 48 ≤ d j ∧ d j ≤ 57 ∧ ∀ h, ((s1[j]'h).toNat : Int) = d j) (hn : ¬ n < 0) (hfin : M k = n) (hk64 : k ≤ 40) (hh : k = 1 ∨ 1 < k ∧ (d0 == 48) = false) :
    Calls Tryd.prog 8 #[.int .i64 a0, .int .u8 x] w fun e w' => e = .returned (.bool true) ∧ Below w.heap.size w w' := by
  have HG := Lib.hid hG
  have HN := Lib.hid hnear
  have HT := Lib.hid htext
  have HM := Lib.hid hM0; have HMS := Lib.hid hM; have HD := Lib.hid hd; have HF := Lib.hid hfin
  clear hG hnear htext hM0 hM hd hfin
  rcases hh with hk1 | ⟨hr, hc⟩
  · have hk : ¬ (1 : Int) < (k : Int) := by omega
    have hk2 : 0 < k := by omega
    clear hk1
    go_enter Tryd.func8, Tryd.ntmps8
    go_upto_region 13 with (first
      | (go_at_call 11; refine (billhooklaw01_examples.calls true _ HG.out rfl).mono ?_; rintro e w1 ⟨rfl, hb1⟩; (have HG1 := Lib.hid (GL.below HG.out hb1)))
      | (go_at_call 13; refine (billhooklaw01_near.calls _ _ _ _ HN.out).mono ?_; rintro e w2 ⟨rfl, hb2⟩; (have HG2 := Lib.hid (GL.below HG1.out hb2)))
      | (go_at_call 22; refine (word_Text.calls _ _ _ HG2.out HT.out).mono ?_; rintro e w3 ⟨rfl, hb3⟩)
      | go_in)
    go_wp2
    go_loopw [8, 9] (fun m i wr => ∃ j : Nat, j ≤ k ∧ i = .int .i64 j ∧ m = .int .i64 (M j) ∧ Below w.heap.size w wr) (fun m i _ => k - (intOf i).toNat)
    case atStart => exact ⟨0, by omega, rfl, by rw [HM.out], hb1.trans ((hb2.mono hb1.size).trans (hb3.mono (Nat.le_trans hb1.size hb2.size)))⟩
    case round =>
      obtain ⟨j, hj, rfl, rfl, hB⟩ := hrel
      have HB := Lib.hid hB
      clear hB
      by_cases hlt : j < k
      · obtain ⟨d1, d2, d3⟩ := HD.out j hlt
        have b1 : decide (d j < 48) = false := decide_eq_false (by omega)
        have b2 : decide (d j > 57) = false := decide_eq_false (by omega)
        have u1 : IntKind.u8.wrap (d j - 48) = d j - 48 := by simp [IntKind.wrap, IntKind.bits, IntKind.signed]; omega
        have u2 : wrap64 (d j - 48) = d j - 48 := wrap_in (by omega) (by omega)
        have u3 : IntKind.i64.wrap (d j - 48) = d j - 48 := by rw [wrap_is, u2]
        have hji : (j : Int) < (k : Int) := by omega
        go_upto_region 19 with fail
        go_region_held3 (fun w' => Below w.heap.size w w')
          (first
            | assumption
            | exact HB.out
            | exact HB.out.drew
            | fail)
          (first
            | (go_at_call 24; (first | (with_reducible refine (billhooklaw01_do.calls _ _ _ _ _ (do_mul (M j) 10)).mono ?_) | (with_reducible refine (billhooklaw01_do.calls _ _ _ _ _ (do_add (wrap64 (M j * 10)) (d j - 48))).mono ?_)); rintro e w5 ⟨rfl, hb5⟩; (have HB := Lib.hid (bt (by first | exact HB.out | exact HB.out.drew) hb5))))
        all_goals (go_wp2; exact ⟨⟨j + 1, by omega, by go_num, by rw [HMS.out j hlt], HB.out⟩, by simp [intOf]; omega⟩)
      · have hji : ¬ (j : Int) < (k : Int) := by omega
        have hjk : j = k := by omega
        have hnn : decide (n < 0) = false := decide_eq_false (by omega)
        have hmn : M k = n := HF.out
        go_wp2
        go_ret
        exact ⟨rfl, HB.out⟩
  · have hk : (1 : Int) < (k : Int) := by omega
    have hk2 : 0 < k := by omega
    go_enter Tryd.func8, Tryd.ntmps8
    go_upto_region 13 with (first
      | (go_at_call 11; refine (billhooklaw01_examples.calls true _ HG.out rfl).mono ?_; rintro e w1 ⟨rfl, hb1⟩; (have HG1 := Lib.hid (GL.below HG.out hb1)))
      | (go_at_call 13; refine (billhooklaw01_near.calls _ _ _ _ HN.out).mono ?_; rintro e w2 ⟨rfl, hb2⟩; (have HG2 := Lib.hid (GL.below HG1.out hb2)))
      | (go_at_call 22; refine (word_Text.calls _ _ _ HG2.out HT.out).mono ?_; rintro e w3 ⟨rfl, hb3⟩)
      | go_in)
    go_wp2
    go_loopw [8, 9] (fun m i wr => ∃ j : Nat, j ≤ k ∧ i = .int .i64 j ∧ m = .int .i64 (M j) ∧ Below w.heap.size w wr) (fun m i _ => k - (intOf i).toNat)
    case atStart => exact ⟨0, by omega, rfl, by rw [HM.out], hb1.trans ((hb2.mono hb1.size).trans (hb3.mono (Nat.le_trans hb1.size hb2.size)))⟩
    case round =>
      obtain ⟨j, hj, rfl, rfl, hB⟩ := hrel
      have HB := Lib.hid hB
      clear hB
      by_cases hlt : j < k
      · obtain ⟨d1, d2, d3⟩ := HD.out j hlt
        have b1 : decide (d j < 48) = false := decide_eq_false (by omega)
        have b2 : decide (d j > 57) = false := decide_eq_false (by omega)
        have u1 : IntKind.u8.wrap (d j - 48) = d j - 48 := by simp [IntKind.wrap, IntKind.bits, IntKind.signed]; omega
        have u2 : wrap64 (d j - 48) = d j - 48 := wrap_in (by omega) (by omega)
        have u3 : IntKind.i64.wrap (d j - 48) = d j - 48 := by rw [wrap_is, u2]
        have hji : (j : Int) < (k : Int) := by omega
        go_upto_region 19 with fail
        go_region_held3 (fun w' => Below w.heap.size w w')
          (first
            | assumption
            | exact HB.out
            | exact HB.out.drew
            | fail)
          (first
            | (go_at_call 24; (first | (with_reducible refine (billhooklaw01_do.calls _ _ _ _ _ (do_mul (M j) 10)).mono ?_) | (with_reducible refine (billhooklaw01_do.calls _ _ _ _ _ (do_add (wrap64 (M j * 10)) (d j - 48))).mono ?_)); rintro e w5 ⟨rfl, hb5⟩; (have HB := Lib.hid (bt (by first | exact HB.out | exact HB.out.drew) hb5))))
        all_goals (go_wp2; exact ⟨⟨j + 1, by omega, by go_num, by rw [HMS.out j hlt], HB.out⟩, by simp [intOf]; omega⟩)
      · have hji : ¬ (j : Int) < (k : Int) := by omega
        have hjk : j = k := by omega
        have hnn : decide (n < 0) = false := decide_eq_false (by omega)
        have hmn : M k = n := HF.out
        go_wp2
        go_ret
        exact ⟨rfl, HB.out⟩
end Go.Proofs.YtlkabncoaijepaaDoor.X
