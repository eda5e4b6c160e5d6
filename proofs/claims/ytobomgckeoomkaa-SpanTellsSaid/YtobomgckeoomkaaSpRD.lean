/- The reference's bits of one or the other: its loop. -/
import Derived.Test.YtobomgckeoomkaaSpRC
import Derived.Test.YtobomgckeoomkaaSpU
set_option linter.unusedVariables false
set_option linter.unusedSimpArgs false
set_option maxRecDepth 100000
open Go Go.Im Go.Proofs.Try
namespace S
abbrev bH (a b c d : Int) : Heap := [some { es := [.agg [.int true .i64 a, .int true .i64 b]], sz := 2, dirty := true }, some { es := [.agg [.int true .i64 c, .int true .i64 d]], sz := 2, dirty := true }, some { es := [.agg [.int false .i64 0, .int false .i64 0]], sz := 2, dirty := true }]
abbrev bT (v : Int) : List V := tabV 61 [(4, .mptr 0 0 0), (5, .mptr 1 0 0), (6, .mptr 2 0 0), (7, .int true .i64 v)]
abbrev bS : List V := tabV 61 [(4, .mptr 0 0 0), (5, .mptr 1 0 0), (6, .mptr 2 0 0), (7, .int false .i64 0)]
abbrev bE (v : Int) : List V := tabV 61 [(6, .mptr 2 0 0), (7, .int true .i64 v)]
def mx (b d : Int) : Int := if false = true then if d < b then d else b else if d > b then d else b
theorem mx_eq (b d : Int) : mx b d = max b d := by
  simp only [mx, Bool.false_eq_true, if_false]; split <;> omega
theorem b_end (a b c d v : Int) (h : decide (v < mx b d) = false) : SimC prog (loopOf prog 64 0) (bT v) (bH a b c d) (.exit 1) (bE v) (bH a b c d) :=
  simC_runF (E := envC prog imA 300 {} o_rTraps) (envC_ok hmixed o_rTraps_ok) (ps := [.br false]) (n := 3) (slots := [6, 7]) (show runF _ (loopOf prog 64 0) (bT v) (bH a b c d) [.br false] 3 [6, 7] = some (True ∧ decide (v < mx b d) = false, .exit 1, bE v, bH a b c d) by kernel_rfl) ⟨trivial, h⟩ (Nat.le_refl 3)
theorem b_more (a b c d v : Int) (h : decide (v < mx b d) = true) : SimC prog (loopOf prog 64 0) (bT v) (bH a b c d) .normal (bT (IntKind.wrap .i64 (IntKind.wrap .i64 (v * 2) + 1))) (bH a b c d) :=
  simC_runF (E := envC prog imA 300 {} o_rTraps) (envC_ok hmixed o_rTraps_ok) (ps := [.br true]) (n := 3) (slots := [4, 5, 6, 7]) (show runF _ (loopOf prog 64 0) (bT v) (bH a b c d) [.br true] 3 [4, 5, 6, 7] = some (True ∧ decide (v < mx b d) = true, .normal, bT (IntKind.wrap .i64 (IntKind.wrap .i64 (v * 2) + 1)), bH a b c d) by kernel_rfl) ⟨trivial, h⟩ (Nat.le_refl 3)
theorem pow_le {k : Nat} (h : k ≤ 63) : (1 : Int) ≤ 2 ^ k ∧ (2 : Int) ^ k ≤ 9223372036854775808 := by
  have h1 : (1 : Int) ≤ 2 ^ k := Int.pow_pos (by decide)
  have h2 : (2 : Int) ^ k ≤ 2 ^ 63 := by
    have : (2 : Nat) ^ k ≤ 2 ^ 63 := Nat.pow_le_pow_right (by decide) h
    exact_mod_cast this
  have h3 : (2 : Int) ^ 63 = 9223372036854775808 := by decide
  omega
/-- From 2^i - 1 on, up to the first that is no less. -/
theorem b_loop (a b c d : Int) (k : Nat) (hk : k ≤ 63) (hu : mx b d < 2 ^ k) (hl : ∀ j : Nat, j < k → 2 ^ j ≤ mx b d) : ∀ (n i : Nat), i + n = k →
    SimR prog (loopOf prog 64 0) (bT (2 ^ i - 1)) (bH a b c d) (.exit 1) (bE (2 ^ k - 1)) (bH a b c d)
  | 0, i, e => by
    have : i = k := by omega
    subst this
    exact SimR.last (b_end a b c d _ (by rw [decide_eq_false_iff_not]; omega)) (by simp)
  | n + 1, i, e => by
    have h1 := hl i (by omega)
    have ih := b_loop a b c d k hk hu hl n (i + 1) (by omega)
    have hp := pow_le (k := i) (by omega)
    have hp1 := pow_le (k := i + 1) (by omega)
    have hs : (2 : Int) ^ (i + 1) = 2 ^ i * 2 := Int.pow_succ 2 i
    have e2 : IntKind.wrap .i64 (IntKind.wrap .i64 ((2 ^ i - 1) * 2) + 1) = 2 ^ (i + 1) - 1 := by
      rw [wI_id (x := (2 ^ i - 1) * 2) (by omega) (by omega), wI_id (by omega) (by omega)]; omega
    have := b_more a b c d (2 ^ i - 1) (by rw [decide_eq_true_eq]; omega)
    rw [e2] at this
    exact SimR.step this ih
theorem bS_says (j : Nat) (v : V) (h : (bT 0)[j]? = some v) : ∃ v1, bS[j]? = some v1 ∧ Says v1 v := by
  have hj : j < 61 := by have := (List.getElem?_eq_some_iff.1 h).1; simpa [bT, tabV] using this
  by_cases h7 : j = 7
  · subst h7
    have : v = .int true .i64 0 := by have e : (bT 0)[7]? = some (.int true .i64 0) := rfl; rw [e] at h; cases h; rfl
    subst this
    exact ⟨.int false .i64 0, rfl, Says.int rfl⟩
  · refine ⟨v, ?_, Says.refl v⟩
    rw [← h]
    simp only [bS, bT, tabV]
    rw [List.getElem?_map, List.getElem?_map, List.getElem?_range hj]
    have n7 : (j == 7) = false := by simpa using h7
    simp only [Option.map_some, List.lookup_cons, n7, List.lookup_nil]
theorem tab_low (u : Nat) (h : u < 256) : let t := (([0, 1, 2, 2, 3, 3, 3, 3, 4, 4, 4, 4, 4, 4, 4, 4, 5, 5, 5, 5, 5, 5, 5, 5, 5, 5, 5, 5, 5, 5, 5, 5] ++ List.replicate 32 6 ++ List.replicate 64 7 ++ List.replicate 128 8 : List UInt8)[u]?.getD 0).toNat
    (0 < u → 2 ^ (t - 1) ≤ u ∧ 0 < t) ∧ (u = 0 → t = 0) := by
  have := h
  revert u
  decide +kernel
/-- The least power. -/
theorem len_least {n : Int} (h0 : 0 ≤ n) (h1 : n ≤ 9223372036854775807) : ∀ j : Nat, (j : Int) < Len64 n → 2 ^ j ≤ n := by
  have k32 : (2 : Int) ^ min (Int.toNat 32) (IntKind.bits .u64) = 4294967296 := by decide
  have k16 : (2 : Int) ^ min (Int.toNat 16) (IntKind.bits .u64) = 65536 := by decide
  have k8 : (2 : Int) ^ min (Int.toNat 8) (IntKind.bits .u64) = 256 := by decide
  have leaf : ∀ (cst : Int) (x : Int) (s : Nat), 0 ≤ x → x < 256 → cst = s → s ≤ 56 → (0 < x ∨ s = 0) → n / 2 ^ s = x →
      let t := IntKind.wrap .i64 (cst + IntKind.wrap .i64 ((([0, 1, 2, 2, 3, 3, 3, 3, 4, 4, 4, 4, 4, 4, 4, 4, 5, 5, 5, 5, 5, 5, 5, 5, 5, 5, 5, 5, 5, 5, 5, 5] ++ List.replicate 32 6 ++ List.replicate 64 7 ++ List.replicate 128 8 : List UInt8)[x.toNat]?.getD 0).toNat : Int))
      ∀ j : Nat, (j : Int) < t → 2 ^ j ≤ n := by
    intro cst x s hx hx' hc hs hpos hn
    obtain ⟨t1, t2⟩ := tab_low x.toNat (by omega)
    obtain ⟨_, t3, _⟩ := tab_ok x.toNat (by omega)
    generalize ((([0, 1, 2, 2, 3, 3, 3, 3, 4, 4, 4, 4, 4, 4, 4, 4, 5, 5, 5, 5, 5, 5, 5, 5, 5, 5, 5, 5, 5, 5, 5, 5] ++ List.replicate 32 6 ++ List.replicate 64 7 ++ List.replicate 128 8 : List UInt8)[x.toNat]?.getD 0).toNat) = u at *
    intro t j hj
    have et : t = ((s + u : Nat) : Int) := by
      show IntKind.wrap .i64 (cst + IntKind.wrap .i64 (u : Int)) = _
      rw [wI_id (x := (u : Int)) (by omega) (by omega), wI_id (by omega) (by omega)]; omega
    rw [et] at hj
    have hj' : j < s + u := by omega
    by_cases hx0 : 0 < x
    · obtain ⟨g1, g2⟩ := t1 (by omega)
      have hp : (0 : Int) < 2 ^ s := Int.pow_pos (by decide)
      have g3 : (2 : Int) ^ (u - 1) ≤ x := by
        have : ((2 ^ (u - 1) : Nat) : Int) ≤ (x.toNat : Int) := Int.ofNat_le.2 g1
        rw [Int.natCast_pow] at this
        have e2 : ((2 : Nat) : Int) = 2 := rfl
        rw [e2] at this
        omega
      have g4 : x * 2 ^ s ≤ n := by
        have := Int.ediv_mul_le n (show (2 ^ s : Int) ≠ 0 by omega)
        rw [hn] at this; exact this
      have g5 : (2 : Int) ^ (u - 1) * 2 ^ s ≤ x * 2 ^ s := Int.mul_le_mul_of_nonneg_right g3 (by omega)
      have g6 : (2 : Int) ^ j ≤ 2 ^ (u - 1) * 2 ^ s := by
        rw [← Int.pow_add]
        have : (2 : Nat) ^ j ≤ 2 ^ (u - 1 + s) := Nat.pow_le_pow_right (by decide) (by omega)
        exact_mod_cast this
      omega
    · have hu : u = 0 := t2 (by omega)
      omega
  unfold Len64
  simp only [k32, k16, k8, Bool.cond_eq_ite, decide_eq_true_eq]
  have f1 : Int.fdiv n 4294967296 = n / 4294967296 := Int.fdiv_eq_ediv_of_nonneg _ (by decide)
  have f2 : ∀ x : Int, Int.fdiv x 65536 = x / 65536 := fun x => Int.fdiv_eq_ediv_of_nonneg _ (by decide)
  have f3 : ∀ x : Int, Int.fdiv x 256 = x / 256 := fun x => Int.fdiv_eq_ediv_of_nonneg _ (by decide)
  simp only [f1, f2, f3]
  have w : ∀ x : Int, 0 ≤ x → x < 256 → IntKind.wrap .u8 x = x := fun x h h' => by rw [w8]; omega
  split
  · split
    · split
      · rw [w _ (by omega) (by omega)]; exact leaf _ _ 56 (by omega) (by omega) (by decide +kernel) (by omega) (by omega) (by show n / 72057594037927936 = _; omega)
      · rw [w _ (by omega) (by omega)]; exact leaf _ _ 48 (by omega) (by omega) (by decide +kernel) (by omega) (by omega) (by show n / 281474976710656 = _; omega)
    · split
      · rw [w _ (by omega) (by omega)]; exact leaf _ _ 40 (by omega) (by omega) (by decide +kernel) (by omega) (by omega) (by show n / 1099511627776 = _; omega)
      · rw [w _ (by omega) (by omega)]; exact leaf _ _ 32 (by omega) (by omega) (by decide +kernel) (by omega) (by omega) (by show n / 4294967296 = _; omega)
  · split
    · split
      · rw [w _ (by omega) (by omega)]; exact leaf _ _ 24 (by omega) (by omega) (by decide +kernel) (by omega) (by omega) (by show n / 16777216 = _; omega)
      · rw [w _ (by omega) (by omega)]; exact leaf _ _ 16 (by omega) (by omega) (by decide +kernel) (by omega) (by omega) (by show n / 65536 = _; omega)
    · split
      · rw [w _ (by omega) (by omega)]; exact leaf _ _ 8 (by omega) (by omega) (by decide +kernel) (by omega) (by omega) (by show n / 256 = _; omega)
      · rw [w _ (by omega) (by omega)]; exact leaf _ _ 0 (by omega) (by omega) (by decide +kernel) (by omega) (by omega) (by show n / 1 = _; omega)
/-- Of the bits of two numbers, and of the greater one. -/
theorem len_max {b d : Int} {k : Nat} (hb : 0 ≤ b) (hb' : b ≤ 9223372036854775807) (hd : 0 ≤ d) (hd' : d ≤ 9223372036854775807) (hk : (k : Int) = Len64 (wor b d)) (j : Nat) (hj : j < k) : 2 ^ j ≤ max b d := by
  have ho := or_nat hb hb' hd hd'
  have h63 := Nat.or_lt_two_pow (x := b.toNat) (y := d.toNat) (n := 63) (by omega) (by omega)
  have h := len_least (n := wor b d) (by omega) (by omega) j (by omega)
  rw [ho] at h
  refine Classical.byContradiction fun hn => ?_
  have h1 : b.toNat < 2 ^ j := pow_nat hb (by omega)
  have h2 : d.toNat < 2 ^ j := pow_nat hd (by omega)
  have h3 := nat_pow (Nat.or_lt_two_pow h1 h2)
  omega
theorem rbor_sim (a b c d : Int) (hab : a ≤ b) (hcd : c ≤ d) (rb : Rg b) (rd : Rg d) : Sim prog 64 [.str true ⟨#[124]⟩, .agg [.int true .i64 a, .int true .i64 b], .agg [.int true .i64 c, .int true .i64 d]] [] (.agg [.int true .i64 (wide_0 a b c d), .int true .i64 (wide_1 a b c d)]) [] := by
  refine Sim.args (args' := [.str false ⟨#[124]⟩, .agg [.int true .i64 a, .int true .i64 b], .agg [.int true .i64 c, .int true .i64 d]]) ?_ (.cons (Says.str rfl) (.cons (Says.refl _) (.cons (Says.refl _) .nil)))
  simp only [Rg] at rb rd
  rcases Bool.eq_false_or_eq_true (decide (a < 0)) with h0 | h0
  · exact (sim_run (E := envC prog imA 300 {} o_rTraps) (envC_ok hmixed o_rTraps_ok) (ps := [.br true]) (show run _ 64 [.str false ⟨#[124]⟩, .agg [.int true .i64 a, .int true .i64 b], .agg [.int true .i64 c, .int true .i64 d]] [] [.br true] = some (True ∧ decide (a < 0) = true, .agg [.int false .i64 (-9223372036854775808), .int false .i64 9223372036854775807], []) by kernel_rfl) ⟨trivial, h0⟩).says (Says.agg (.cons (Says.int (by simp only [wide_0, h0, cond_true])) (.cons (Says.int (by simp only [wide_1, h0, cond_true])) .nil)))
  rcases Bool.eq_false_or_eq_true (decide (c < 0)) with h1 | h1
  · exact (sim_run (E := envC prog imA 300 {} o_rTraps) (envC_ok hmixed o_rTraps_ok) (ps := [.br false, .br true]) (show run _ 64 [.str false ⟨#[124]⟩, .agg [.int true .i64 a, .int true .i64 b], .agg [.int true .i64 c, .int true .i64 d]] [] [.br false, .br true] = some ((True ∧ decide (a < 0) = false) ∧ decide (c < 0) = true, .agg [.int false .i64 (-9223372036854775808), .int false .i64 9223372036854775807], []) by kernel_rfl) ⟨⟨trivial, h0⟩, h1⟩).says (Says.agg (.cons (Says.int (by simp only [wide_0, h0, h1, cond_true, cond_false])) (.cons (Says.int (by simp only [wide_1, h0, h1, cond_true, cond_false])) .nil)))
  · have ha : 0 ≤ a := by simpa using h0
    have hc : 0 ≤ c := by simpa using h1
    obtain ⟨w0, k, hk, w1, hb, hd, hlen⟩ := wide_val ha hab (by omega) hc hcd (by omega)
    have hmx : mx b d = max b d := mx_eq b d
    have hl := ((b_loop a b c d k hk (by rw [hmx]; omega) (fun j hj => by rw [hmx]; exact len_max (by omega) (by omega) (by omega) (by omega) hlen j hj) k 0 (by omega)).loop).pre (T := bS) rfl bS_says
    rw [w0, w1]
    generalize (2 : Int) ^ k - 1 = z at *
    exact (sim_run (E := envC prog imA 300 {} o_rTraps) (envC_ok hmixed o_rTraps_ok) (ps := [.br false, .br false, .loop [4, 5, 6, 7] (some 1) [(6, .mptr 2 0 0), (7, .int true .i64 z)] (bH a b c d)])
      (show run _ 64 [.str false ⟨#[124]⟩, .agg [.int true .i64 a, .int true .i64 b], .agg [.int true .i64 c, .int true .i64 d]] [] [.br false, .br false, .loop [4, 5, 6, 7] (some 1) [(6, .mptr 2 0 0), (7, .int true .i64 z)] (bH a b c d)] = some (((True ∧ decide (a < 0) = false) ∧ decide (c < 0) = false) ∧ SimC prog (.loop (loopOf prog 64 0)) bS (bH a b c d) (.exit 1) (bE z) (bH a b c d), .agg [.int false .i64 0, .int true .i64 z], []) by kernel_rfl) ⟨⟨⟨trivial, h0⟩, h1⟩, hl⟩).says (Says.agg (.cons (Says.int rfl) (.cons (Says.refl _) .nil)))
theorem rbxor_sim (a b c d : Int) (hab : a ≤ b) (hcd : c ≤ d) (rb : Rg b) (rd : Rg d) : Sim prog 64 [.str true ⟨#[94]⟩, .agg [.int true .i64 a, .int true .i64 b], .agg [.int true .i64 c, .int true .i64 d]] [] (.agg [.int true .i64 (wide_0 a b c d), .int true .i64 (wide_1 a b c d)]) [] := by
  refine Sim.args (args' := [.str false ⟨#[94]⟩, .agg [.int true .i64 a, .int true .i64 b], .agg [.int true .i64 c, .int true .i64 d]]) ?_ (.cons (Says.str rfl) (.cons (Says.refl _) (.cons (Says.refl _) .nil)))
  simp only [Rg] at rb rd
  rcases Bool.eq_false_or_eq_true (decide (a < 0)) with h0 | h0
  · exact (sim_run (E := envC prog imA 300 {} o_rTraps) (envC_ok hmixed o_rTraps_ok) (ps := [.br true]) (show run _ 64 [.str false ⟨#[94]⟩, .agg [.int true .i64 a, .int true .i64 b], .agg [.int true .i64 c, .int true .i64 d]] [] [.br true] = some (True ∧ decide (a < 0) = true, .agg [.int false .i64 (-9223372036854775808), .int false .i64 9223372036854775807], []) by kernel_rfl) ⟨trivial, h0⟩).says (Says.agg (.cons (Says.int (by simp only [wide_0, h0, cond_true])) (.cons (Says.int (by simp only [wide_1, h0, cond_true])) .nil)))
  rcases Bool.eq_false_or_eq_true (decide (c < 0)) with h1 | h1
  · exact (sim_run (E := envC prog imA 300 {} o_rTraps) (envC_ok hmixed o_rTraps_ok) (ps := [.br false, .br true]) (show run _ 64 [.str false ⟨#[94]⟩, .agg [.int true .i64 a, .int true .i64 b], .agg [.int true .i64 c, .int true .i64 d]] [] [.br false, .br true] = some ((True ∧ decide (a < 0) = false) ∧ decide (c < 0) = true, .agg [.int false .i64 (-9223372036854775808), .int false .i64 9223372036854775807], []) by kernel_rfl) ⟨⟨trivial, h0⟩, h1⟩).says (Says.agg (.cons (Says.int (by simp only [wide_0, h0, h1, cond_true, cond_false])) (.cons (Says.int (by simp only [wide_1, h0, h1, cond_true, cond_false])) .nil)))
  · have ha : 0 ≤ a := by simpa using h0
    have hc : 0 ≤ c := by simpa using h1
    obtain ⟨w0, k, hk, w1, hb, hd, hlen⟩ := wide_val ha hab (by omega) hc hcd (by omega)
    have hmx : mx b d = max b d := mx_eq b d
    have hl := ((b_loop a b c d k hk (by rw [hmx]; omega) (fun j hj => by rw [hmx]; exact len_max (by omega) (by omega) (by omega) (by omega) hlen j hj) k 0 (by omega)).loop).pre (T := bS) rfl bS_says
    rw [w0, w1]
    generalize (2 : Int) ^ k - 1 = z at *
    exact (sim_run (E := envC prog imA 300 {} o_rTraps) (envC_ok hmixed o_rTraps_ok) (ps := [.br false, .br false, .loop [4, 5, 6, 7] (some 1) [(6, .mptr 2 0 0), (7, .int true .i64 z)] (bH a b c d)])
      (show run _ 64 [.str false ⟨#[94]⟩, .agg [.int true .i64 a, .int true .i64 b], .agg [.int true .i64 c, .int true .i64 d]] [] [.br false, .br false, .loop [4, 5, 6, 7] (some 1) [(6, .mptr 2 0 0), (7, .int true .i64 z)] (bH a b c d)] = some (((True ∧ decide (a < 0) = false) ∧ decide (c < 0) = false) ∧ SimC prog (.loop (loopOf prog 64 0)) bS (bH a b c d) (.exit 1) (bE z) (bH a b c d), .agg [.int false .i64 0, .int true .i64 z], []) by kernel_rfl) ⟨⟨⟨trivial, h0⟩, h1⟩, hl⟩).says (Says.agg (.cons (Says.int rfl) (.cons (Says.refl _) .nil)))
end S
