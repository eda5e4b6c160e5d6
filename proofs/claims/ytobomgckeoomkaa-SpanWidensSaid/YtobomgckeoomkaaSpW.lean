/- SpanWidens: its loop, round by round. -/
import Derived.Test.YtobomgckeoomkaaSpK
import Derived.Test.YtobomgckeoomkaaImLoop
set_option linter.unusedVariables false
set_option linter.unusedSimpArgs false
set_option maxRecDepth 100000
open Go Go.Im
namespace S
/-- Widened by the numbers of a list, k of them at most: the span, the turns. -/
def wRun : List Int → Nat → Int → Int → Int → Int × Int × Int
  | [], _, A, B, t => (A, B, t)
  | _ :: _, 0, A, B, t => (A, B, t)
  | x :: r, k + 1, A, B, t => wRun r k (Widen_0 A B (Of_0 x) (Of_1 x)) (Widen_1 A B (Of_0 x) (Of_1 x)) (bif is A B (Widen_0 A B (Of_0 x) (Of_1 x)) (Widen_1 A B (Of_0 x) (Of_1 x)) then t else IntKind.wrap .i64 (t + 1))
/-- Each step keeps what there was, and has the number. -/
def wOk : List Int → Nat → Int → Int → Prop
  | [], _, _, _ => True
  | _ :: _, 0, _, _ => True
  | x :: r, k + 1, A, B => Has (Widen_0 A B (Of_0 x) (Of_1 x)) (Widen_1 A B (Of_0 x) (Of_1 x)) x = true ∧ In A B (Widen_0 A B (Of_0 x) (Of_1 x)) (Widen_1 A B (Of_0 x) (Of_1 x)) = true ∧
      wOk r k (Widen_0 A B (Of_0 x) (Of_1 x)) (Widen_1 A B (Of_0 x) (Of_1 x))
abbrev wT (xs : List V) (t i : Int) : List V := tabV 59 [(1, .isl true xs), (5, .bool false true), (6, .mptr 1 0 0), (7, .int true .i64 t), (8, .int true .i64 i)]
abbrev wH (a b : Int) (c : Bool) (d e A B : Int) : Heap := [some { es := [.agg [.int true .i64 a, .int true .i64 b, .bool true c, .int true .u8 d, .int true .u8 e]], sz := 5, dirty := true }, some { es := [.agg [.int true .i64 A, .int true .i64 B]], sz := 2, dirty := true }]
abbrev wE (t : Int) : List V := tabV 59 [(5, .bool false true), (7, .int true .i64 t)]
theorem w_end (a b : Int) (c : Bool) (d e A B : Int) (xs : List V) (t i : Int) (h1 : inK .i64 (xs.length : Int) = true) (h2 : decide (i < (xs.length : Int)) = false) :
    SimC Go.Proofs.Try.prog (loopOf Go.Proofs.Try.prog 6 0) (wT xs t i) (wH a b c d e A B) (.exit 0) (wE t) (wH a b c d e A B) :=
  simC_runF (E := envC Go.Proofs.Try.prog imA 300 {} o_op) (envC_ok hmixed o_op_ok) (ps := [.br true, .br false]) (n := 2) (slots := [5, 7])
    (show runF _ (loopOf Go.Proofs.Try.prog 6 0) (wT xs t i) (wH a b c d e A B) [.br true, .br false] 2 [5, 7] = some ((True ∧ inK .i64 (xs.length : Int) = true) ∧ decide (i < (xs.length : Int)) = false, .exit 0, wE t, wH a b c d e A B) by kernel_rfl) ⟨⟨trivial, h1⟩, h2⟩ (Nat.le_refl 2)
theorem w_full (a b : Int) (c : Bool) (d e A B : Int) (xs : List V) (t i : Int) (h1 : inK .i64 (xs.length : Int) = true) (h2 : decide (i < (xs.length : Int)) = true) (h3 : decide (i < 60) = false) :
    SimC Go.Proofs.Try.prog (loopOf Go.Proofs.Try.prog 6 0) (wT xs t i) (wH a b c d e A B) (.exit 0) (wE t) (wH a b c d e A B) :=
  simC_runF (E := envC Go.Proofs.Try.prog imA 300 {} o_op) (envC_ok hmixed o_op_ok) (ps := [.br true, .br true, .br false]) (n := 2) (slots := [5, 7])
    (show runF _ (loopOf Go.Proofs.Try.prog 6 0) (wT xs t i) (wH a b c d e A B) [.br true, .br true, .br false] 2 [5, 7] = some (((True ∧ inK .i64 (xs.length : Int) = true) ∧ decide (i < (xs.length : Int)) = true) ∧ decide (i < 60) = false, .exit 0, wE t, wH a b c d e A B) by kernel_rfl) ⟨⟨⟨trivial, h1⟩, h2⟩, h3⟩ (Nat.le_refl 2)
theorem w_same (a b : Int) (c : Bool) (d e A B : Int) (xs : List V) (t i x : Int) (h1 : inK .i64 (xs.length : Int) = true) (h2 : decide (i < (xs.length : Int)) = true) (h3 : decide (i < 60) = true) (h4 : inRange i xs.length = true) (h5 : xs[i.toNat]? = some (.int true .i64 x))
    (h6 : (!Has (Widen_0 A B (Of_0 x) (Of_1 x)) (Widen_1 A B (Of_0 x) (Of_1 x)) x) = false) (h7 : (!In A B (Widen_0 A B (Of_0 x) (Of_1 x)) (Widen_1 A B (Of_0 x) (Of_1 x))) = false) (h8 : (!is A B (Widen_0 A B (Of_0 x) (Of_1 x)) (Widen_1 A B (Of_0 x) (Of_1 x))) = false) :
    SimC Go.Proofs.Try.prog (loopOf Go.Proofs.Try.prog 6 0) (wT xs t i) (wH a b c d e A B) .normal (wT xs t (IntKind.wrap .i64 (i + 1))) (wH a b c d e (Widen_0 A B (Of_0 x) (Of_1 x)) (Widen_1 A B (Of_0 x) (Of_1 x))) :=
  simC_runF (E := envC Go.Proofs.Try.prog imA 300 {} o_op) (envC_ok hmixed o_op_ok) (ps := [.br true, .br true, .br true, .br true, .el (.int true .i64 x), .br true, .el (.int true .i64 x), .br false, .br false, .br false]) (n := 2) (slots := [1, 5, 6, 7, 8])
    (show runF _ (loopOf Go.Proofs.Try.prog 6 0) (wT xs t i) (wH a b c d e A B) [.br true, .br true, .br true, .br true, .el (.int true .i64 x), .br true, .el (.int true .i64 x), .br false, .br false, .br false] 2 [1, 5, 6, 7, 8] =
      some ((((((((((True ∧ inK .i64 (xs.length : Int) = true) ∧ decide (i < (xs.length : Int)) = true) ∧ decide (i < 60) = true) ∧ inRange i xs.length = true) ∧ xs[i.toNat]? = some (.int true .i64 x)) ∧ inRange i xs.length = true) ∧ xs[i.toNat]? = some (.int true .i64 x)) ∧
        (!Has (Widen_0 A B (Of_0 x) (Of_1 x)) (Widen_1 A B (Of_0 x) (Of_1 x)) x) = false) ∧ (!In A B (Widen_0 A B (Of_0 x) (Of_1 x)) (Widen_1 A B (Of_0 x) (Of_1 x))) = false) ∧ (!is A B (Widen_0 A B (Of_0 x) (Of_1 x)) (Widen_1 A B (Of_0 x) (Of_1 x))) = false,
        .normal, wT xs t (IntKind.wrap .i64 (i + 1)), wH a b c d e (Widen_0 A B (Of_0 x) (Of_1 x)) (Widen_1 A B (Of_0 x) (Of_1 x))) by kernel_rfl) ⟨⟨⟨⟨⟨⟨⟨⟨⟨⟨trivial, h1⟩, h2⟩, h3⟩, h4⟩, h5⟩, h4⟩, h5⟩, h6⟩, h7⟩, h8⟩ (Nat.le_refl 2)
theorem w_turn (a b : Int) (c : Bool) (d e A B : Int) (xs : List V) (t i x : Int) (h1 : inK .i64 (xs.length : Int) = true) (h2 : decide (i < (xs.length : Int)) = true) (h3 : decide (i < 60) = true) (h4 : inRange i xs.length = true) (h5 : xs[i.toNat]? = some (.int true .i64 x))
    (h6 : (!Has (Widen_0 A B (Of_0 x) (Of_1 x)) (Widen_1 A B (Of_0 x) (Of_1 x)) x) = false) (h7 : (!In A B (Widen_0 A B (Of_0 x) (Of_1 x)) (Widen_1 A B (Of_0 x) (Of_1 x))) = false) (h8 : (!is A B (Widen_0 A B (Of_0 x) (Of_1 x)) (Widen_1 A B (Of_0 x) (Of_1 x))) = true) :
    SimC Go.Proofs.Try.prog (loopOf Go.Proofs.Try.prog 6 0) (wT xs t i) (wH a b c d e A B) .normal (wT xs (IntKind.wrap .i64 (t + 1)) (IntKind.wrap .i64 (i + 1))) (wH a b c d e (Widen_0 A B (Of_0 x) (Of_1 x)) (Widen_1 A B (Of_0 x) (Of_1 x))) :=
  simC_runF (E := envC Go.Proofs.Try.prog imA 300 {} o_op) (envC_ok hmixed o_op_ok) (ps := [.br true, .br true, .br true, .br true, .el (.int true .i64 x), .br true, .el (.int true .i64 x), .br false, .br false, .br true]) (n := 2) (slots := [1, 5, 6, 7, 8])
    (show runF _ (loopOf Go.Proofs.Try.prog 6 0) (wT xs t i) (wH a b c d e A B) [.br true, .br true, .br true, .br true, .el (.int true .i64 x), .br true, .el (.int true .i64 x), .br false, .br false, .br true] 2 [1, 5, 6, 7, 8] =
      some ((((((((((True ∧ inK .i64 (xs.length : Int) = true) ∧ decide (i < (xs.length : Int)) = true) ∧ decide (i < 60) = true) ∧ inRange i xs.length = true) ∧ xs[i.toNat]? = some (.int true .i64 x)) ∧ inRange i xs.length = true) ∧ xs[i.toNat]? = some (.int true .i64 x)) ∧
        (!Has (Widen_0 A B (Of_0 x) (Of_1 x)) (Widen_1 A B (Of_0 x) (Of_1 x)) x) = false) ∧ (!In A B (Widen_0 A B (Of_0 x) (Of_1 x)) (Widen_1 A B (Of_0 x) (Of_1 x))) = false) ∧ (!is A B (Widen_0 A B (Of_0 x) (Of_1 x)) (Widen_1 A B (Of_0 x) (Of_1 x))) = true,
        .normal, wT xs (IntKind.wrap .i64 (t + 1)) (IntKind.wrap .i64 (i + 1)), wH a b c d e (Widen_0 A B (Of_0 x) (Of_1 x)) (Widen_1 A B (Of_0 x) (Of_1 x))) by kernel_rfl) ⟨⟨⟨⟨⟨⟨⟨⟨⟨⟨trivial, h1⟩, h2⟩, h3⟩, h4⟩, h5⟩, h4⟩, h5⟩, h6⟩, h7⟩, h8⟩ (Nat.le_refl 2)
theorem w_loop (a b : Int) (c : Bool) (d e : Int) (l : List Int) (hl : inK .i64 (l.length : Int) = true) : ∀ (r : List Int) (i k : Nat) (A B t : Int), l.drop i = r → i + k = 60 → wOk r k A B →
    SimR Go.Proofs.Try.prog (loopOf Go.Proofs.Try.prog 6 0) (wT (l.map (V.int true .i64)) t (i : Int)) (wH a b c d e A B) (.exit 0) (wE (wRun r k A B t).2.2) (wH a b c d e (wRun r k A B t).1 (wRun r k A B t).2.1)
  | [], i, k, A, B, t, hr, hk, ho => by
    have : l.length ≤ i := by simpa using hr
    refine SimR.last (w_end a b c d e A B _ t i (by rwa [List.length_map]) ?_) (by simp)
    rw [List.length_map, decide_eq_false_iff_not]; omega
  | x :: r, i, 0, A, B, t, hr, hk, ho => by
    have hi : i < l.length := by
      have := congrArg List.length hr
      simp at this; omega
    refine SimR.last (w_full a b c d e A B _ t i (by rwa [List.length_map]) ?_ ?_) (by simp)
    · rw [List.length_map, decide_eq_true_eq]; omega
    · rw [decide_eq_false_iff_not]; omega
  | x :: r, i, k + 1, A, B, t, hr, hk, ⟨o1, o2, o3⟩ => by
    have hi : i < l.length := by
      have := congrArg List.length hr
      simp at this; omega
    have hx : l[i]? = some x := by
      have := congrArg (fun m => m[0]?) hr
      simpa using this
    have hd : l.drop (i + 1) = r := by
      have := congrArg List.tail hr
      simpa using this
    have e1 : IntKind.wrap .i64 ((i : Int) + 1) = ((i + 1 : Nat) : Int) := by rw [wI_id (by omega) (by omega)]; omega
    have h2 : decide ((i : Int) < ((l.map (V.int true .i64)).length : Int)) = true := by rw [List.length_map, decide_eq_true_eq]; omega
    have h3 : decide ((i : Int) < 60) = true := by rw [decide_eq_true_eq]; omega
    have h4 : inRange (i : Int) (l.map (V.int true .i64)).length = true := by
      simp only [inRange, List.length_map, Bool.and_eq_true, decide_eq_true_eq]; omega
    have h5 : (l.map (V.int true .i64))[(i : Int).toNat]? = some (.int true .i64 x) := by
      rw [Int.toNat_natCast, List.getElem?_map, hx]; rfl
    have ih := w_loop a b c d e l hl r (i + 1) k _ _ (bif is A B (Widen_0 A B (Of_0 x) (Of_1 x)) (Widen_1 A B (Of_0 x) (Of_1 x)) then t else IntKind.wrap .i64 (t + 1)) hd (by omega) o3
    refine SimR.step ?_ ih
    cases hs : is A B (Widen_0 A B (Of_0 x) (Of_1 x)) (Widen_1 A B (Of_0 x) (Of_1 x)) with
    | true =>
      have := w_same a b c d e A B _ t i x (by rwa [List.length_map]) h2 h3 h4 h5 (by rw [o1]; rfl) (by rw [o2]; rfl) (by rw [hs]; rfl)
      rw [e1] at this
      exact this
    | false =>
      have := w_turn a b c d e A B _ t i x (by rwa [List.length_map]) h2 h3 h4 h5 (by rw [o1]; rfl) (by rw [o2]; rfl) (by rw [hs]; rfl)
      rw [e1] at this
      exact this
abbrev wM0 (a b : Int) (c : Bool) (d e : Int) : Int := Meet_0 (rangespan_0 a b c d e) (rangespan_1 a b c d e) (-9223372036854775808) 9223372036854775807
abbrev wM1 (a b : Int) (c : Bool) (d e : Int) : Int := Meet_1 (rangespan_0 a b c d e) (rangespan_1 a b c d e) (-9223372036854775808) 9223372036854775807
abbrev wS (xs : List V) : List V := tabV 59 [(1, .isl true xs), (5, .bool false true), (6, .mptr 1 0 0), (7, .int false .i64 0), (8, .int false .i64 0)]
theorem wS_says (xs : List V) (j : Nat) (v : V) (h : (wT xs 0 0)[j]? = some v) : ∃ v1, (wS xs)[j]? = some v1 ∧ Says v1 v := by
  have hj : j < 59 := by have := (List.getElem?_eq_some_iff.1 h).1; simpa [wT, tabV] using this
  by_cases h7 : j = 7
  · subst h7
    have : v = .int true .i64 0 := by have e : (wT xs 0 0)[7]? = some (.int true .i64 0) := rfl; rw [e] at h; cases h; rfl
    subst this
    exact ⟨.int false .i64 0, rfl, Says.int rfl⟩
  · by_cases h8 : j = 8
    · subst h8
      have : v = .int true .i64 0 := by have e : (wT xs 0 0)[8]? = some (.int true .i64 0) := rfl; rw [e] at h; cases h; rfl
      subst this
      exact ⟨.int false .i64 0, rfl, Says.int rfl⟩
    · refine ⟨v, ?_, Says.refl v⟩
      rw [← h]
      simp only [wS, wT, tabV]
      rw [List.getElem?_map, List.getElem?_map, List.getElem?_range hj]
      have n7 : (j == 7) = false := by simpa using h7
      have n8 : (j == 8) = false := by simpa using h8
      simp only [Option.map_some, List.lookup_cons, n7, n8, List.lookup_nil]
theorem widens_sim (a b : Int) (c : Bool) (d e : Int) (l : List Int) (hl : inK .i64 (l.length : Int) = true) (ho : wOk l 60 (wM0 a b c d e) (wM1 a b c d e)) :
    Sim Go.Proofs.Try.prog 6 [.agg [.int true .i64 a, .int true .i64 b, .bool true c, .int true .u8 d, .int true .u8 e], .isl true (l.map (V.int true .i64))] [] (.bool true (decide ((wRun l 60 (wM0 a b c d e) (wM1 a b c d e) 0).2.2 ≤ 15))) [] := by
  have h := (w_loop a b c d e l hl l 0 60 (wM0 a b c d e) (wM1 a b c d e) 0 rfl rfl ho).loop.pre (T := wS (l.map (V.int true .i64))) rfl (wS_says _)
  generalize wRun l 60 (wM0 a b c d e) (wM1 a b c d e) 0 = w at *
  obtain ⟨w0, w1, t⟩ := w
  generalize l.map (V.int true .i64) = xs at *
  exact sim_run (E := envC Go.Proofs.Try.prog imA 300 {} o_op) (envC_ok hmixed o_op_ok) (ps := [.loop [1, 5, 6, 7, 8] (some 0) [(5, .bool false true), (7, .int true .i64 t)] (wH a b c d e w0 w1)])
    (show run _ 6 [.agg [.int true .i64 a, .int true .i64 b, .bool true c, .int true .u8 d, .int true .u8 e], .isl true xs] [] [.loop [1, 5, 6, 7, 8] (some 0) [(5, .bool false true), (7, .int true .i64 t)] (wH a b c d e w0 w1)] =
      some (True ∧ SimC Go.Proofs.Try.prog (.loop (loopOf Go.Proofs.Try.prog 6 0)) (wS xs) (wH a b c d e (wM0 a b c d e) (wM1 a b c d e)) (.exit 0) (wE t) (wH a b c d e w0 w1), .bool true (decide (t ≤ 15)), []) by kernel_rfl) ⟨trivial, h⟩
end S
