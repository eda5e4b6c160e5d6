/- LexCuts: what the law computes is true. -/
import Derived.Test.YtgklcbmaidpbjaaDoorLxA1
import Derived.Test.YtgklcbmaidpbjaaDoorTrO
import Derived.Test.YtgklcbmaidpbjaaDoorPlZ
set_option linter.unusedVariables false
set_option linter.unusedSimpArgs false
set_option maxRecDepth 10000
namespace Go.Im
/-- The same words, so much further on. -/
theorem eu_cuts {c : Bool} {a b : List LexToken} {k en : Nat} (hl : a.length ≤ 10000) (he : en ≤ 100000) (hab : a.length = k + 1 + b.length) (hs : ∀ (i : Nat) (x y : LexToken), b[i]? = some x → a[k + 1 + i]? = some y → x.Kind = y.Kind ∧ x.Text = y.Text ∧ x.N = y.N ∧ x.At = y.At - (en : Int) ∧ 0 ≤ y.At ∧ y.At ≤ 1000000) : ∀ (m i : Nat), i + m = b.length →
    Eu (fun n => S.law02_LexCuts_l0 n c a (k : Int) (en : Int) b (i : Int)) (Sum.inr c) := by
  intro m
  induction m with
  | zero =>
    intro i hi
    exact Eu.succ (fun n => S.law02_LexCuts_l0.eq_2 ..) (Eu.t (inKt (by omega)) (Eu.f (decide_eq_false (by rw [List.length_map]; omega)) (Eu.ret rfl)))
  | succ m ih =>
    intro i hi
    have hlt : i < b.length := by omega
    have hlt' : k + 1 + i < a.length := by omega
    obtain ⟨h1, h2, h3, h4, h5, h6⟩ := hs i _ _ (List.getElem?_eq_getElem hlt) (List.getElem?_eq_getElem hlt')
    have ew : IntKind.wrap IntKind.i64 (IntKind.wrap IntKind.i64 ((k : Int) + 1) + (i : Int)) = ((k + 1 + i : Nat) : Int) := by
      rw [wrap_s (show k < 4611686018427387904 by omega)]
      exact wrapN _ (by omega) (by omega)
    have ew2 : IntKind.wrap IntKind.i64 ((a[k + 1 + i]).At - (en : Int)) = (a[k + 1 + i]).At - (en : Int) := wrap_id (by omega) (by omega)
    refine Eu.succ (fun n => S.law02_LexCuts_l0.eq_2 ..) (Eu.t (inKt (by omega)) (Eu.t (decide_eq_true (by rw [List.length_map]; omega)) (Eu.t (inRm hlt) (Eu.bs (nat_get hlt) ?_))))
    rw [ew]
    refine Eu.t (inRm hlt') (Eu.bs (nat_get hlt') ?_)
    rw [ew2, h1, h2, h3, h4, wrap_s (show i < 4611686018427387904 by omega)]
    exact Eu.f (by simp) (Eu.f (by simp) (Eu.f (by simp) (Eu.f (by simp) (ih (i + 1) (by omega)))))
theorem Lx.bound {at_ : Nat} {s : List UInt8} {l : List (Nat × Tk)} {e : Option Nat} (h : Lx at_ s l e) : ∀ y ∈ l, at_ ≤ y.1 ∧ y.1 + y.2.txt.length ≤ at_ + s.length := by
  induction h with
  | nil => intro y hy; simp at hy
  | err => intro y hy; simp at hy
  | tok a sp t r l e hs hn h ih =>
    intro y hy
    simp only [List.length_append]
    rcases List.mem_cons.1 hy with rfl | hy
    · dsimp only; omega
    · have := ih y hy; omega
/-- What stands behind stands behind. -/
theorem Lx.mono {at_ : Nat} {s : List UInt8} {l : List (Nat × Tk)} {e : Option Nat} (h : Lx at_ s l e) : ∀ (k i : Nat) (x y : Nat × Tk), l[k]? = some x → l[k + 1 + i]? = some y → x.1 + x.2.txt.length ≤ y.1 := by
  induction h with
  | nil => intro k i x y hx; simp at hx
  | err => intro k i x y hx; simp at hx
  | tok a sp t r l e hs hn h ih =>
    intro k i x y hx hy
    cases k with
    | zero =>
      simp at hx; subst hx
      have hy' : l[i]? = some y := by
        have : 0 + 1 + i = i + 1 := by omega
        rw [this] at hy; simpa using hy
      have := (h.bound y (List.mem_of_getElem? hy')).1
      dsimp only; omega
    | succ k =>
      refine ih k i x y (by simpa using hx) ?_
      have : k + 1 + 1 + i = (k + 1 + i) + 1 := by omega
      rw [this] at hy; simpa using hy
theorem Pure.LexCuts {H : Type} {d0 : DataW H} (a0 : List UInt8) (a1 : Int) (g0 : goodL (fun _ _ => True) a0 d0) (g1 : inK .u8 a1 = true) : ∃ n, S.law02_LexCuts n a0 a1 = some true := by
  obtain ⟨hu0, hu1⟩ := inK_spec.1 g1
  have hu0 : (0 : Int) ≤ a1 := hu0
  have hu1 : a1 ≤ 255 := hu1
  obtain ⟨b, rfl⟩ : ∃ b : Nat, a1 = (b : Int) := ⟨a1.toNat, by omega⟩
  obtain ⟨_, r0, W, rfl, hW⟩ := eu_words (tight := false) g0.1
  obtain ⟨l, e, hx⟩ := Lx.ex W.length W 0 (Nat.le_refl _)
  have hA := eu_All (by omega) hx
  have hsl := hx.spaced_len
  refine Eu.get (Eu.eq (fun n => rfl) (Eu.bd r0 (Eu.bd hA ?_)))
  cases e with
  | some p => exact Eu.t rfl (Eu.t rfl (Eu.ret rfl))
  | none =>
    have hll : (List.map LexToken.v (l.map fun y => tokT y.1 y.2)).length = l.length := by rw [List.length_map, List.length_map]
    have hk : inK IntKind.i64 (↑(List.length (List.map LexToken.v (l.map fun y => tokT y.1 y.2))) : Int) = true := inKt (by rw [List.length_map]; omega)
    refine Eu.f rfl ?_
    dsimp only [ansT]
    refine Eu.t hk ?_
    rw [hll]
    by_cases h0 : l.length = 0
    · rw [h0]
      exact Eu.t rfl (Eu.f rfl (Eu.ret rfl))
    · have hw : IntKind.wrap IntKind.i64 (b : Int) = (b : Int) := wrapN _ (by omega) rfl
      have hm : Int.tmod (b : Int) (l.length : Int) = ((b % l.length : Nat) : Int) := tmodN _ _
      rw [hw, hm]
      generalize hkk : b % l.length = k
      have hkl : k < l.length := by rw [← hkk]; exact Nat.mod_lt _ (by omega)
      have hget : l[k]? = some l[k] := List.getElem?_eq_getElem hkl
      obtain ⟨A, B, hAB, hend, hxA, hxB⟩ := hx.cut rfl k _ hget
      have hbd := hx.bound l[k] (List.getElem_mem hkl)
      have hWl : W.length = A.length + B.length := by rw [hAB, List.length_append]
      have hAl : A.length = l[k].1 + l[k].2.txt.length := by omega
      have hgt : (l.map fun y => tokT y.1 y.2)[k]? = some (tokT l[k].1 l[k].2) := by rw [List.getElem?_map, hget]; rfl
      have hAA := eu_All (by omega) hxA
      have hAB2 := eu_All (by omega) (hxB 0)
      have htx : (tokT l[k].1 l[k].2).Text = bs l[k].2.txt := rfl
      have hat : (tokT l[k].1 l[k].2).At = ((l[k].1 : Nat) : Int) := rfl
      have ew : IntKind.wrap .i64 (((l[k].1 : Nat) : Int) + ((l[k].2.txt.length : Nat) : Int)) = ((A.length : Nat) : Int) := wrapN _ (by omega) (by omega)
      have ex1 : ByteArray.extract (bs W) (Int.toNat 0) (Int.toNat ((A.length : Nat) : Int)) = bs A := by
        rw [ba_extract, Int.toNat_natCast]
        congr 1
        rw [show Int.toNat 0 = 0 from rfl, List.drop_zero, Nat.sub_zero, hAB]
        exact List.take_left
      have ex2 : ByteArray.extract (bs W) (Int.toNat ((A.length : Nat) : Int)) (Int.toNat ((W.length : Nat) : Int)) = bs B := by
        rw [ba_extract, Int.toNat_natCast, Int.toNat_natCast]
        congr 1
        rw [hWl, Nat.add_sub_cancel_left]
        conv => lhs; rw [hAB]
        rw [List.drop_left]
        exact List.take_of_length_le (Nat.le_refl _)
      refine Eu.f (beq_false_of_ne (by omega)) (Eu.t (bne_iff_ne.2 (by omega)) (Eu.t (inR hkl) (Eu.bs (a := tokT l[k].1 l[k].2) (by rw [Int.toNat_natCast]; exact hgt) ?_)))
      rw [htx, hat]
      simp only [size_bs]
      rw [ew, ex1, ex2]
      refine Eu.t (inK_nat (by show l[k].2.txt.length ≤ 4611686018427387904; omega)) (Eu.t (inK_nat (by show W.length ≤ 4611686018427387904; omega)) (Eu.f (decide_eq_false (by omega)) (Eu.t (and3 rfl (decide_eq_true (by omega)) (decide_eq_true (by omega))) (Eu.bd hAA (Eu.t (and3 (decide_eq_true (by omega)) (decide_eq_true (by omega)) (decide_eq_true (by omega))) (Eu.bd hAB2 (Eu.f rfl (Eu.f rfl ?_))))))))
      dsimp only [ansT]
      have t1 : (List.map LexToken.v ((l.take (k + 1)).map fun y => tokT y.1 y.2)).length = k + 1 := by rw [List.length_map, List.length_map, List.length_take]; omega
      have t2 : (List.map LexToken.v (((l.drop (k + 1)).map fun y => (y.1 + 0 - (l[k].1 + l[k].2.txt.length), y.2)).map fun y => tokT y.1 y.2)).length = l.length - (k + 1) := by simp only [List.length_map, List.length_drop]
      rw [t1, t2]
      have ew1 : IntKind.wrap IntKind.i64 (((k : Nat) : Int) + 1) = ((k + 1 : Nat) : Int) := wrap_s (show k < 4611686018427387904 by omega)
      have ew2 : IntKind.wrap IntKind.i64 (IntKind.wrap IntKind.i64 (((l.length : Nat) : Int) - ((k : Nat) : Int)) - 1) = ((l.length - (k + 1) : Nat) : Int) := by
        rw [wrapN (a := ((l.length : Nat) : Int) - ((k : Nat) : Int)) (l.length - k) (by omega) (by omega)]
        exact wrapN _ (by omega) (by omega)
      rw [ew1, ew2]
      refine Eu.t (inK_nat (by show k + 1 ≤ 4611686018427387904; omega)) (Eu.f (by simp) (Eu.t (inK_nat (by show l.length - (k + 1) ≤ 4611686018427387904; omega)) (Eu.f (by simp) (Eu.bd (a := Sum.inr true) ?_ (Eu.ret rfl)))))
      refine eu_cuts (by rw [List.length_map]; omega) (by omega) (by simp only [List.length_map, List.length_drop]; omega) (fun i x y hi hj => ?_) _ 0 (by rw [Nat.zero_add])
      simp only [List.getElem?_map, List.getElem?_drop] at hi hj
      cases hy : l[k + 1 + i]? with
      | none => rw [hy] at hj; cases hj
      | some z =>
        rw [hy] at hi hj
        have e1 : tokT (z.1 + 0 - (l[k].1 + l[k].2.txt.length)) z.2 = x := Option.some.inj hi
        have e2 : tokT z.1 z.2 = y := Option.some.inj hj
        have hmn := hx.mono k i _ _ hget hy
        have hbz := hx.bound z (List.mem_of_getElem? hy)
        subst e1 e2
        refine ⟨rfl, rfl, rfl, ?_, ?_, ?_⟩
        · show ((z.1 + 0 - (l[k].1 + l[k].2.txt.length) : Nat) : Int) = ((z.1 : Nat) : Int) - ((A.length : Nat) : Int)
          omega
        · show (0 : Int) ≤ ((z.1 : Nat) : Int); omega
        · show ((z.1 : Nat) : Int) ≤ 1000000; omega
end Go.Im
