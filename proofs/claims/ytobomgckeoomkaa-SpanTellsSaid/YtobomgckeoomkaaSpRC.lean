/- The reference's widening: its two loops. -/
import Derived.Test.YtobomgckeoomkaaSpRB
import Derived.Test.YtobomgckeoomkaaImLoop
set_option linter.unusedVariables false
set_option linter.unusedSimpArgs false
set_option maxRecDepth 100000
open Go Go.Im Go.Proofs.Try
theorem Go.Im.Says.ints {s s' s1 s2 : Bool} {k : IntKind} (L : List Int) : Says (.isl s (L.map (V.int s1 k))) (.isl s' (L.map (V.int s2 k))) := fun h own ρ x hv => by
  cases hv with
  | imm _ _ hi =>
    generalize hx : L.map (V.int s1 k) = xs at hi
    cases hi with
    | isl0 =>
      have : L = [] := by simpa using hx
      subst this
      exact .imm _ _ (.isl0 _ _ _)
    | isl _ _ b o cap sz c e f xv hcap hown hb hsz hc hr =>
      subst hx
      have el : (L.map (V.int s1 k)).length = (L.map (V.int s2 k)).length := by simp
      have key : ∀ (i : Nat) (u : V), (L.map (V.int s2 k))[i]? = some u → ∃ n, u = .int s2 k n ∧ (L.map (V.int s1 k))[i]? = some (.int s1 k n) := by
        intro i u hu
        rw [List.getElem?_map] at hu
        obtain ⟨n, hn, rfl⟩ := Option.map_eq_some_iff.1 hu
        exact ⟨n, rfl, by rw [List.getElem?_map, hn]; rfl⟩
      rw [el] at hcap ⊢
      refine .imm _ _ (.isl s' _ b o cap sz c e f xv hcap hown hb (fun i u hu => ?_) (fun i u j y hu hy => ?_) (fun i u j y hu hy => ?_))
      · obtain ⟨n, rfl, h1⟩ := key i u hu
        exact (hsz i (V.int s1 k n) h1 :)
      · obtain ⟨n, rfl, h1⟩ := key i u hu
        cases j with
        | zero => exact hc i _ 0 (.int s1 k n) h1 rfl
        | succ j => simp [V.cells] at hy
      · obtain ⟨n, rfl, h1⟩ := key i u hu
        cases j with
        | zero =>
          simp only [V.cells, List.getElem?_cons_zero, Option.some.injEq] at hy
          subst hy
          have := hr i _ 0 (.int s1 k n) h1 rfl
          generalize hz : xv i 0 = z at this
          cases this with
          | int _ _ _ hn => exact .int _ _ _ hn
        | succ j => simp [V.cells] at hy
namespace S
theorem inRange_of {i n : Nat} (h : i < n) : inRange (i : Int) n = true := by
  simp only [inRange, Bool.and_eq_true, decide_eq_true_eq]; omega
abbrev zH (a b c d v w : Int) : Heap := [some { es := [.agg [.int true .i64 a, .int true .i64 b]], sz := 2, dirty := true }, some { es := [.agg [.int true .i64 c, .int true .i64 d]], sz := 2, dirty := true }, some { es := [.agg [.int false .i64 0, .int false .i64 0]], sz := 2, dirty := true }, some { es := [.agg [.int true .i64 v, .int true .i64 w]], sz := 2, dirty := true }]
abbrev zT (p q : Nat) (xs : List V) (i : Int) : List V := tabV 70 [(2, .mptr 0 0 0), (3, .mptr 1 0 0), (4, .mptr 2 0 0), (5, .mptr 3 0 0), (p, .isl true xs), (q, .int true .i64 i)]
abbrev zS (p q : Nat) (xs : List V) : List V := tabV 70 [(2, .mptr 0 0 0), (3, .mptr 1 0 0), (4, .mptr 2 0 0), (5, .mptr 3 0 0), (p, .isl false xs), (q, .int false .i64 0)]
abbrev zE : List V := tabV 70 [(2, .mptr 0 0 0), (3, .mptr 1 0 0), (4, .mptr 2 0 0), (5, .mptr 3 0 0)]
theorem lo_end (a b c d v w : Int) (xs : List V) (i : Int) (h1 : inK .i64 (xs.length : Int) = true) (h2 : decide (i < (xs.length : Int)) = false) : SimC prog (loopOf prog 28 0) (zT 6 7 xs i) (zH a b c d v w) (.exit 0) zE (zH a b c d v w) :=
  simC_runF (E := envC prog imA 300 {} o_rTraps) (envC_ok hmixed o_rTraps_ok) (ps := [.br true, .br false]) (n := 4) (slots := [2, 3, 4, 5])
    (show runF _ (loopOf prog 28 0) (zT 6 7 xs i) (zH a b c d v w) [.br true, .br false] 4 [2, 3, 4, 5] = some ((True ∧ inK .i64 (xs.length : Int) = true) ∧ decide (i < (xs.length : Int)) = false, .exit 0, zE, zH a b c d v w) by kernel_rfl) ⟨⟨trivial, h1⟩, h2⟩ (Nat.le_refl 4)
theorem lo_no (a b c d v w : Int) (xs : List V) (i x : Int) (h1 : inK .i64 (xs.length : Int) = true) (h2 : decide (i < (xs.length : Int)) = true) (h3 : inRange i xs.length = true) (h4 : xs[i.toNat]? = some (.int true .i64 x)) (h5 : decide (x ≤ c) = false) : SimC prog (loopOf prog 28 0) (zT 6 7 xs i) (zH a b c d v w) .normal (zT 6 7 xs (IntKind.wrap .i64 (i + 1))) (zH a b c d v w) :=
  simC_runF (E := envC prog imA 300 {} o_rTraps) (envC_ok hmixed o_rTraps_ok) (ps := [.br true, .br true, .br true, .el (.int true .i64 x), .br false]) (n := 4) (slots := [2, 3, 4, 5, 6, 7])
    (show runF _ (loopOf prog 28 0) (zT 6 7 xs i) (zH a b c d v w) [.br true, .br true, .br true, .el (.int true .i64 x), .br false] 4 [2, 3, 4, 5, 6, 7] = some (((((True ∧ inK .i64 (xs.length : Int) = true) ∧ decide (i < (xs.length : Int)) = true) ∧ inRange i xs.length = true) ∧ xs[i.toNat]? = some (.int true .i64 x)) ∧ decide (x ≤ c) = false, .normal, zT 6 7 xs (IntKind.wrap .i64 (i + 1)), zH a b c d v w) by kernel_rfl) ⟨⟨⟨⟨⟨trivial, h1⟩, h2⟩, h3⟩, h4⟩, h5⟩ (Nat.le_refl 4)
theorem lo_yes (a b c d v w : Int) (xs : List V) (i x : Int) (h1 : inK .i64 (xs.length : Int) = true) (h2 : decide (i < (xs.length : Int)) = true) (h3 : inRange i xs.length = true) (h4 : xs[i.toNat]? = some (.int true .i64 x)) (h5 : decide (x ≤ c) = true) : SimC prog (loopOf prog 28 0) (zT 6 7 xs i) (zH a b c d v w) .normal (zT 6 7 xs (IntKind.wrap .i64 (i + 1))) (zH a b c d x w) :=
  simC_runF (E := envC prog imA 300 {} o_rTraps) (envC_ok hmixed o_rTraps_ok) (ps := [.br true, .br true, .br true, .el (.int true .i64 x), .br true, .br true, .el (.int true .i64 x)]) (n := 4) (slots := [2, 3, 4, 5, 6, 7])
    (show runF _ (loopOf prog 28 0) (zT 6 7 xs i) (zH a b c d v w) [.br true, .br true, .br true, .el (.int true .i64 x), .br true, .br true, .el (.int true .i64 x)] 4 [2, 3, 4, 5, 6, 7] = some ((((((((True ∧ inK .i64 (xs.length : Int) = true) ∧ decide (i < (xs.length : Int)) = true) ∧ inRange i xs.length = true) ∧ xs[i.toNat]? = some (.int true .i64 x))) ∧ decide (x ≤ c) = true) ∧ inRange i xs.length = true) ∧ xs[i.toNat]? = some (.int true .i64 x), .normal, zT 6 7 xs (IntKind.wrap .i64 (i + 1)), zH a b c d x w) by kernel_rfl) ⟨⟨⟨⟨⟨⟨⟨trivial, h1⟩, h2⟩, h3⟩, h4⟩, h5⟩, h3⟩, h4⟩ (Nat.le_refl 4)
def loR (c : Int) : List Int → Int → Int
  | [], v => v
  | x :: r, v => loR c r (bif decide (x ≤ c) then x else v)
theorem lo_loop (a b c d : Int) (l : List Int) (hl : inK .i64 (l.length : Int) = true) (hm : l.length ≤ 100) : ∀ (r : List Int) (i : Nat) (v w : Int), l.drop i = r →
    SimR prog (loopOf prog 28 0) (zT 6 7 (l.map (V.int true .i64)) (i : Int)) (zH a b c d v w) (.exit 0) zE (zH a b c d (loR c r v) w)
  | [], i, v, w, hr => by
    have : l.length ≤ i := by simpa using hr
    refine SimR.last (lo_end a b c d v w _ i (by rwa [List.length_map]) ?_) (by simp)
    rw [List.length_map, decide_eq_false_iff_not]; omega
  | x :: r, i, v, w, hr => by
    have hi : i < l.length := by
      have := congrArg List.length hr
      simp at this; omega
    have hx : l[i]? = some x := by
      have := congrArg (fun m => m[0]?) hr
      simpa using this
    have hd : l.drop (i + 1) = r := by
      have := congrArg List.tail hr
      simpa using this
    have e1 : IntKind.wrap .i64 ((i : Int) + 1) = ((i + 1 : Nat) : Int) := by rw [wI_id (by omega) (by omega)]; omega
    have h2 : decide ((i : Int) < ((l.map (V.int true .i64)).length : Int)) = true := by rw [List.length_map, decide_eq_true_eq]; omega
    have h4 : inRange (i : Int) (l.map (V.int true .i64)).length = true := by rw [List.length_map]; exact inRange_of hi
    have h5 : (l.map (V.int true .i64))[(i : Int).toNat]? = some (.int true .i64 x) := by
      rw [Int.toNat_natCast, List.getElem?_map, hx]; rfl
    have ih := lo_loop a b c d l hl hm r (i + 1) (bif decide (x ≤ c) then x else v) w hd
    refine SimR.step ?_ ih
    cases hs : decide (x ≤ c) with
    | true =>
      have := lo_yes a b c d v w _ i x (by rwa [List.length_map]) h2 h4 h5 hs
      rw [e1] at this
      exact this
    | false =>
      have := lo_no a b c d v w _ i x (by rwa [List.length_map]) h2 h4 h5 hs
      rw [e1] at this
      exact this
theorem hi_end (a b c d v w : Int) (xs : List V) (i : Int) (h1 : inK .i64 (xs.length : Int) = true) (h2 : decide (i < (xs.length : Int)) = false) : SimC prog (loopOf prog 28 1) (zT 8 9 xs i) (zH a b c d v w) (.exit 2) zE (zH a b c d v w) :=
  simC_runF (E := envC prog imA 300 {} o_rTraps) (envC_ok hmixed o_rTraps_ok) (ps := [.br true, .br false]) (n := 4) (slots := [2, 3, 4, 5])
    (show runF _ (loopOf prog 28 1) (zT 8 9 xs i) (zH a b c d v w) [.br true, .br false] 4 [2, 3, 4, 5] = some ((True ∧ inK .i64 (xs.length : Int) = true) ∧ decide (i < (xs.length : Int)) = false, .exit 2, zE, zH a b c d v w) by kernel_rfl) ⟨⟨trivial, h1⟩, h2⟩ (Nat.le_refl 4)
theorem hi_no (a b c d v w : Int) (xs : List V) (i x : Int) (h1 : inK .i64 (xs.length : Int) = true) (h2 : decide (i < (xs.length : Int)) = true) (h3 : inRange i xs.length = true) (h4 : xs[i.toNat]? = some (.int true .i64 x)) (h5 : decide (x ≥ d) = false) : SimC prog (loopOf prog 28 1) (zT 8 9 xs i) (zH a b c d v w) .normal (zT 8 9 xs (IntKind.wrap .i64 (i + 1))) (zH a b c d v w) :=
  simC_runF (E := envC prog imA 300 {} o_rTraps) (envC_ok hmixed o_rTraps_ok) (ps := [.br true, .br true, .br true, .el (.int true .i64 x), .br false]) (n := 4) (slots := [2, 3, 4, 5, 8, 9])
    (show runF _ (loopOf prog 28 1) (zT 8 9 xs i) (zH a b c d v w) [.br true, .br true, .br true, .el (.int true .i64 x), .br false] 4 [2, 3, 4, 5, 8, 9] = some (((((True ∧ inK .i64 (xs.length : Int) = true) ∧ decide (i < (xs.length : Int)) = true) ∧ inRange i xs.length = true) ∧ xs[i.toNat]? = some (.int true .i64 x)) ∧ decide (x ≥ d) = false, .normal, zT 8 9 xs (IntKind.wrap .i64 (i + 1)), zH a b c d v w) by kernel_rfl) ⟨⟨⟨⟨⟨trivial, h1⟩, h2⟩, h3⟩, h4⟩, h5⟩ (Nat.le_refl 4)
theorem hi_yes (a b c d v w : Int) (xs : List V) (i x : Int) (h1 : inK .i64 (xs.length : Int) = true) (h2 : decide (i < (xs.length : Int)) = true) (h3 : inRange i xs.length = true) (h4 : xs[i.toNat]? = some (.int true .i64 x)) (h5 : decide (x ≥ d) = true) : SimC prog (loopOf prog 28 1) (zT 8 9 xs i) (zH a b c d v w) .normal (zT 8 9 xs (IntKind.wrap .i64 (i + 1))) (zH a b c d v x) :=
  simC_runF (E := envC prog imA 300 {} o_rTraps) (envC_ok hmixed o_rTraps_ok) (ps := [.br true, .br true, .br true, .el (.int true .i64 x), .br true, .br true, .el (.int true .i64 x)]) (n := 4) (slots := [2, 3, 4, 5, 8, 9])
    (show runF _ (loopOf prog 28 1) (zT 8 9 xs i) (zH a b c d v w) [.br true, .br true, .br true, .el (.int true .i64 x), .br true, .br true, .el (.int true .i64 x)] 4 [2, 3, 4, 5, 8, 9] = some ((((((((True ∧ inK .i64 (xs.length : Int) = true) ∧ decide (i < (xs.length : Int)) = true) ∧ inRange i xs.length = true) ∧ xs[i.toNat]? = some (.int true .i64 x))) ∧ decide (x ≥ d) = true) ∧ inRange i xs.length = true) ∧ xs[i.toNat]? = some (.int true .i64 x), .normal, zT 8 9 xs (IntKind.wrap .i64 (i + 1)), zH a b c d v x) by kernel_rfl) ⟨⟨⟨⟨⟨⟨⟨trivial, h1⟩, h2⟩, h3⟩, h4⟩, h5⟩, h3⟩, h4⟩ (Nat.le_refl 4)
def hiR (d : Int) : List Int → Int → Int
  | [], v => v
  | x :: r, v => hiR d r (bif decide (x ≥ d) then x else v)
theorem hi_loop (a b c d : Int) (l : List Int) (hl : inK .i64 (l.length : Int) = true) (hm : l.length ≤ 100) : ∀ (r : List Int) (i : Nat) (v w : Int), l.drop i = r →
    SimR prog (loopOf prog 28 1) (zT 8 9 (l.map (V.int true .i64)) (i : Int)) (zH a b c d v w) (.exit 2) zE (zH a b c d v (hiR d r w))
  | [], i, v, w, hr => by
    have : l.length ≤ i := by simpa using hr
    refine SimR.last (hi_end a b c d v w _ i (by rwa [List.length_map]) ?_) (by simp)
    rw [List.length_map, decide_eq_false_iff_not]; omega
  | x :: r, i, v, w, hr => by
    have hi : i < l.length := by
      have := congrArg List.length hr
      simp at this; omega
    have hx : l[i]? = some x := by
      have := congrArg (fun m => m[0]?) hr
      simpa using this
    have hd : l.drop (i + 1) = r := by
      have := congrArg List.tail hr
      simpa using this
    have e1 : IntKind.wrap .i64 ((i : Int) + 1) = ((i + 1 : Nat) : Int) := by rw [wI_id (by omega) (by omega)]; omega
    have h2 : decide ((i : Int) < ((l.map (V.int true .i64)).length : Int)) = true := by rw [List.length_map, decide_eq_true_eq]; omega
    have h4 : inRange (i : Int) (l.map (V.int true .i64)).length = true := by rw [List.length_map]; exact inRange_of hi
    have h5 : (l.map (V.int true .i64))[(i : Int).toNat]? = some (.int true .i64 x) := by
      rw [Int.toNat_natCast, List.getElem?_map, hx]; rfl
    have ih := hi_loop a b c d l hl hm r (i + 1) v (bif decide (x ≥ d) then x else w) hd
    refine SimR.step ?_ ih
    cases hs : decide (x ≥ d) with
    | true =>
      have := hi_yes a b c d v w _ i x (by rwa [List.length_map]) h2 h4 h5 hs
      rw [e1] at this
      exact this
    | false =>
      have := hi_no a b c d v w _ i x (by rwa [List.length_map]) h2 h4 h5 hs
      rw [e1] at this
      exact this
theorem zS_says (p q : Nat) (hpq : p ≠ q) (hp : p ∉ [2, 3, 4, 5]) (hq : q ∉ [2, 3, 4, 5]) (l : List Int) (j : Nat) (v : V) (h : (zT p q (l.map (V.int true .i64)) 0)[j]? = some v) : ∃ v1, (zS p q (l.map (V.int false .i64)))[j]? = some v1 ∧ Says v1 v := by
  have hj : j < 70 := by have := (List.getElem?_eq_some_iff.1 h).1; simpa [zT, tabV] using this
  simp only [zT, zS, tabV] at *
  rw [List.getElem?_map, List.getElem?_range hj] at *
  simp only [Option.map_some, Option.some.injEq] at h
  refine ⟨_, rfl, ?_⟩
  subst h
  simp only [List.mem_cons, List.not_mem_nil, or_false, not_or] at hp hq
  simp only [List.lookup_cons, List.lookup_nil]
  by_cases h2 : j = 2
  · subst h2; exact Says.refl _
  by_cases h3 : j = 3
  · subst h3; exact Says.refl _
  by_cases h4 : j = 4
  · subst h4; exact Says.refl _
  by_cases h5 : j = 5
  · subst h5; exact Says.refl _
  have n2 : (j == 2) = false := by simpa using h2
  have n3 : (j == 3) = false := by simpa using h3
  have n4 : (j == 4) = false := by simpa using h4
  have n5 : (j == 5) = false := by simpa using h5
  simp only [n2, n3, n4, n5]
  by_cases e : j = p
  · subst e
    simp only [beq_self_eq_true, Option.getD_some]
    exact Says.ints l
  · have np : (j == p) = false := by simpa using e
    simp only [np]
    by_cases e' : j = q
    · subst e'
      simp only [beq_self_eq_true, Option.getD_some]
      exact Says.int rfl
    · have nq : (j == q) = false := by simpa using e'
      simp only [nq]
      exact Says.refl _
def lowsL : List Int := [-9223372036854775808, -65536, -1024, -64, -1, 0, 1]
def highsL : List Int := [9223372036854775807, 65536, 1024, 64, 1, 0, -1]
def rWiden_0 (a b c d : Int) : Int := bif rEmpty a b then rJoin_0 a b c d else bif rIn c d a b then rJoin_0 a b c d else bif decide (c < a) then loR c lowsL a else a
def rWiden_1 (a b c d : Int) : Int := bif rEmpty a b then rJoin_1 a b c d else bif rIn c d a b then rJoin_1 a b c d else bif decide (d > b) then hiR d highsL b else b
theorem rWiden_sim (a b c d : Int) : Sim prog 28 [.agg [.int true .i64 a, .int true .i64 b], .agg [.int true .i64 c, .int true .i64 d]] [] (.agg [.int true .i64 (rWiden_0 a b c d), .int true .i64 (rWiden_1 a b c d)]) [] := by
  have q0 : SimC prog (.loop (loopOf prog 28 0)) (zS 6 7 (lowsL.map (V.int false .i64))) (zH a b c d a b) (.exit 0) zE (zH a b c d (loR c lowsL a) b) := ((lo_loop a b c d lowsL (by decide +kernel) (by decide) lowsL 0 a b rfl).loop).pre (T := zS 6 7 (lowsL.map (V.int false .i64))) rfl (zS_says 6 7 (by decide) (by decide) (by decide) lowsL)
  have q1 : ∀ v : Int, SimC prog (.loop (loopOf prog 28 1)) (zS 8 9 (highsL.map (V.int false .i64))) (zH a b c d v b) (.exit 2) zE (zH a b c d v (hiR d highsL b)) := fun v => ((hi_loop a b c d highsL (by decide +kernel) (by decide) highsL 0 v b rfl).loop).pre (T := zS 8 9 (highsL.map (V.int false .i64))) rfl (zS_says 8 9 (by decide) (by decide) (by decide) highsL)
  rcases Bool.eq_false_or_eq_true (rEmpty a b) with h0 | h0
  · exact (sim_run (E := envC prog imA 300 {} o_rTraps) (envC_ok hmixed o_rTraps_ok) (ps := [.br true]) (show run _ 28 [.agg [.int true .i64 a, .int true .i64 b], .agg [.int true .i64 c, .int true .i64 d]] [] [.br true] = some (True ∧ rEmpty a b = true, .agg [.int true .i64 (rJoin_0 a b c d), .int true .i64 (rJoin_1 a b c d)], []) by kernel_rfl) ⟨trivial, h0⟩).says (Says.agg (.cons (Says.int (by simp [rWiden_0, h0])) (.cons (Says.int (by simp [rWiden_1, h0])) .nil)))
  rcases Bool.eq_false_or_eq_true (rIn c d a b) with h1 | h1
  · exact (sim_run (E := envC prog imA 300 {} o_rTraps) (envC_ok hmixed o_rTraps_ok) (ps := [.br false, .br true]) (show run _ 28 [.agg [.int true .i64 a, .int true .i64 b], .agg [.int true .i64 c, .int true .i64 d]] [] [.br false, .br true] = some ((True ∧ rEmpty a b = false) ∧ rIn c d a b = true, .agg [.int true .i64 (rJoin_0 a b c d), .int true .i64 (rJoin_1 a b c d)], []) by kernel_rfl) ⟨⟨trivial, h0⟩, h1⟩).says (Says.agg (.cons (Says.int (by simp [rWiden_0, h0, h1])) (.cons (Says.int (by simp [rWiden_1, h0, h1])) .nil)))
  rcases Bool.eq_false_or_eq_true (decide (c < a)) with h2 | h2
  · rcases Bool.eq_false_or_eq_true (decide (d > b)) with h3 | h3
    · exact (sim_run (E := envC prog imA 300 {} o_rTraps) (envC_ok hmixed o_rTraps_ok) (ps := [.br false, .br false, .br true, .loop [2, 3, 4, 5, 6, 7] (some 0) [(2, .mptr 0 0 0), (3, .mptr 1 0 0), (4, .mptr 2 0 0), (5, .mptr 3 0 0)] (zH a b c d (loR c lowsL a) b), .br true, .loop [2, 3, 4, 5, 8, 9] (some 2) [(2, .mptr 0 0 0), (3, .mptr 1 0 0), (4, .mptr 2 0 0), (5, .mptr 3 0 0)] (zH a b c d (loR c lowsL a) (hiR d highsL b))]) (show run _ 28 [.agg [.int true .i64 a, .int true .i64 b], .agg [.int true .i64 c, .int true .i64 d]] [] [.br false, .br false, .br true, .loop [2, 3, 4, 5, 6, 7] (some 0) [(2, .mptr 0 0 0), (3, .mptr 1 0 0), (4, .mptr 2 0 0), (5, .mptr 3 0 0)] (zH a b c d (loR c lowsL a) b), .br true, .loop [2, 3, 4, 5, 8, 9] (some 2) [(2, .mptr 0 0 0), (3, .mptr 1 0 0), (4, .mptr 2 0 0), (5, .mptr 3 0 0)] (zH a b c d (loR c lowsL a) (hiR d highsL b))] = some ((((((True ∧ rEmpty a b = false) ∧ rIn c d a b = false) ∧ decide (c < a) = true) ∧ SimC prog (.loop (loopOf prog 28 0)) (zS 6 7 (lowsL.map (V.int false .i64))) (zH a b c d a b) (.exit 0) zE (zH a b c d (loR c lowsL a) b)) ∧ decide (d > b) = true) ∧ SimC prog (.loop (loopOf prog 28 1)) (zS 8 9 (highsL.map (V.int false .i64))) (zH a b c d (loR c lowsL a) b) (.exit 2) zE (zH a b c d (loR c lowsL a) (hiR d highsL b)), .agg [.int true .i64 (loR c lowsL a), .int true .i64 (hiR d highsL b)], []) by kernel_rfl) ⟨⟨⟨⟨⟨⟨trivial, h0⟩, h1⟩, h2⟩, q0⟩, h3⟩, q1 _⟩).says (Says.agg (.cons (Says.int (by rw [rWiden_0, h0, h1, h2]; rfl)) (.cons (Says.int (by rw [rWiden_1, h0, h1, h3]; rfl)) .nil)))
    · exact (sim_run (E := envC prog imA 300 {} o_rTraps) (envC_ok hmixed o_rTraps_ok) (ps := [.br false, .br false, .br true, .loop [2, 3, 4, 5, 6, 7] (some 0) [(2, .mptr 0 0 0), (3, .mptr 1 0 0), (4, .mptr 2 0 0), (5, .mptr 3 0 0)] (zH a b c d (loR c lowsL a) b), .br false]) (show run _ 28 [.agg [.int true .i64 a, .int true .i64 b], .agg [.int true .i64 c, .int true .i64 d]] [] [.br false, .br false, .br true, .loop [2, 3, 4, 5, 6, 7] (some 0) [(2, .mptr 0 0 0), (3, .mptr 1 0 0), (4, .mptr 2 0 0), (5, .mptr 3 0 0)] (zH a b c d (loR c lowsL a) b), .br false] = some (((((True ∧ rEmpty a b = false) ∧ rIn c d a b = false) ∧ decide (c < a) = true) ∧ SimC prog (.loop (loopOf prog 28 0)) (zS 6 7 (lowsL.map (V.int false .i64))) (zH a b c d a b) (.exit 0) zE (zH a b c d (loR c lowsL a) b)) ∧ decide (d > b) = false, .agg [.int true .i64 (loR c lowsL a), .int true .i64 b], []) by kernel_rfl) ⟨⟨⟨⟨⟨trivial, h0⟩, h1⟩, h2⟩, q0⟩, h3⟩).says (Says.agg (.cons (Says.int (by rw [rWiden_0, h0, h1, h2]; rfl)) (.cons (Says.int (by rw [rWiden_1, h0, h1, h3]; rfl)) .nil)))
  · rcases Bool.eq_false_or_eq_true (decide (d > b)) with h3 | h3
    · exact (sim_run (E := envC prog imA 300 {} o_rTraps) (envC_ok hmixed o_rTraps_ok) (ps := [.br false, .br false, .br false, .br true, .loop [2, 3, 4, 5, 8, 9] (some 2) [(2, .mptr 0 0 0), (3, .mptr 1 0 0), (4, .mptr 2 0 0), (5, .mptr 3 0 0)] (zH a b c d a (hiR d highsL b))]) (show run _ 28 [.agg [.int true .i64 a, .int true .i64 b], .agg [.int true .i64 c, .int true .i64 d]] [] [.br false, .br false, .br false, .br true, .loop [2, 3, 4, 5, 8, 9] (some 2) [(2, .mptr 0 0 0), (3, .mptr 1 0 0), (4, .mptr 2 0 0), (5, .mptr 3 0 0)] (zH a b c d a (hiR d highsL b))] = some (((((True ∧ rEmpty a b = false) ∧ rIn c d a b = false) ∧ decide (c < a) = false) ∧ decide (d > b) = true) ∧ SimC prog (.loop (loopOf prog 28 1)) (zS 8 9 (highsL.map (V.int false .i64))) (zH a b c d a b) (.exit 2) zE (zH a b c d a (hiR d highsL b)), .agg [.int true .i64 a, .int true .i64 (hiR d highsL b)], []) by kernel_rfl) ⟨⟨⟨⟨⟨trivial, h0⟩, h1⟩, h2⟩, h3⟩, q1 _⟩).says (Says.agg (.cons (Says.int (by rw [rWiden_0, h0, h1, h2]; rfl)) (.cons (Says.int (by rw [rWiden_1, h0, h1, h3]; rfl)) .nil)))
    · exact (sim_run (E := envC prog imA 300 {} o_rTraps) (envC_ok hmixed o_rTraps_ok) (ps := [.br false, .br false, .br false, .br false]) (show run _ 28 [.agg [.int true .i64 a, .int true .i64 b], .agg [.int true .i64 c, .int true .i64 d]] [] [.br false, .br false, .br false, .br false] = some ((((True ∧ rEmpty a b = false) ∧ rIn c d a b = false) ∧ decide (c < a) = false) ∧ decide (d > b) = false, .agg [.int true .i64 a, .int true .i64 b], []) by kernel_rfl) ⟨⟨⟨⟨trivial, h0⟩, h1⟩, h2⟩, h3⟩).says (Says.agg (.cons (Says.int (by rw [rWiden_0, h0, h1, h2]; rfl)) (.cons (Says.int (by rw [rWiden_1, h0, h1, h3]; rfl)) .nil)))
end S
