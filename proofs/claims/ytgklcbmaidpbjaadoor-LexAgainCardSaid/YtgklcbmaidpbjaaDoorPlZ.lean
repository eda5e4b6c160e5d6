/- Plain laws of words: texts of pieces of programs. -/
import Derived.Test.YtgklcbmaidpbjaaDoorLxA1
import Derived.Test.YtgklcbmaidpbjaaDoorPlY
set_option linter.unusedVariables false
set_option linter.unusedSimpArgs false
set_option maxRecDepth 100000
namespace Go.Im
theorem inKz {α : Type} {f : α → V} {l : List α} (h : l.length ≤ maxLen) : inK .i64 (((l.map f).length : Nat) : Int) = true := by
  have hm : maxLen ≤ 9223372036854775807 := by decide
  rw [List.length_map]
  show (decide ((-9223372036854775808 : Int) ≤ (l.length : Int)) && decide ((l.length : Int) ≤ (9223372036854775807 : Int))) = true
  rw [decide_eq_true (by omega), decide_eq_true (by omega)]; rfl
/-- A text that is not too long. -/
def Shrt (k : Nat) (b : ByteArray) : Prop := ∃ w, b = bs w ∧ w.length ≤ k
theorem eu_words_l0 {l : List UInt8} {tight : Bool} {parts : List ByteArray} (hl : l.length ≤ maxLen) (hn : parts.length = 55) (hp : ∀ b ∈ parts, Shrt 30 b) : ∀ (k i : Nat) (w : List UInt8), i + k = 30 → w.length ≤ 40 * i →
    EuP (fun n => S.law02_words_l0 n l tight parts (bs w) (i : Int)) (Shrt 1200) := by
  intro k
  induction k with
  | zero =>
    intro i w hi hw
    exact EuP.succ (fun n => S.law02_words_l0.eq_2 ..) (EuP.t (inKz hl) (EuP.c (fun _ => EuP.f (decide_eq_false (by omega)) (EuP.ret ⟨w, rfl, by omega⟩)) (fun _ => EuP.ret ⟨w, rfl, by omega⟩)))
  | succ k ih =>
    intro i w hi hw
    refine EuP.succ (fun n => S.law02_words_l0.eq_2 ..) (EuP.t (inKz hl) (EuP.c (fun hc => ?_) (fun _ => EuP.ret ⟨w, rfl, by omega⟩)))
    have hlt : i < l.length := by
      have := of_decide_eq_true hc
      rw [List.length_map] at this; omega
    have hb := l[i].toNat_lt
    have hw1 : IntKind.wrap IntKind.i64 ((l[i].toNat : Nat) : Int) = ((l[i].toNat : Nat) : Int) := wrapN _ (by omega) rfl
    have tail : ∀ a ∈ parts, EuP (fun n => (bif decide ((↑(ByteArray.size (bs w) + ByteArray.size a) : Int) ≤ 9223372036854775807) then (bif !tight then (bif inRange (Int.tmod (↑(UInt8.toNat l[i]) : Int) 4) 4 then ((((({ data := #[32] }) :: (({ data := #[9] }) :: (({ data := #[10] }) :: (({ data := #[32, 13] }) :: ([] : List ByteArray))))) : List ByteArray)[Int.toNat (Int.tmod (↑(UInt8.toNat l[i]) : Int) 4)]?).bind fun x13 => (bif decide ((↑(ByteArray.size (bs w ++ a) + ByteArray.size x13) : Int) ≤ 9223372036854775807) then (S.law02_words_l0 n l tight parts (bs w ++ a ++ x13) (IntKind.wrap IntKind.i64 ((i : Int) + 1))) else none)) else none) else (S.law02_words_l0 n l tight parts (bs w ++ a) (IntKind.wrap IntKind.i64 ((i : Int) + 1)))) else none)) (Shrt 1200) := fun a ha => by
      obtain ⟨v, rfl, hv⟩ := hp a ha
      rw [bs_app, wrap_s (show i < 4611686018427387904 by omega)]
      refine EuP.t (decide_eq_true (by rw [size_bs, size_bs]; omega)) (EuP.c (fun _ => ?_) (fun _ => ih (i + 1) (w ++ v) (by omega) (by rw [List.length_append]; omega)))
      have hm : Int.tmod ((l[i].toNat : Nat) : Int) 4 = ((l[i].toNat % 4 : Nat) : Int) := tmodN _ 4
      rw [hm, Int.toNat_natCast]
      have hlt4 : l[i].toNat % 4 < 4 := Nat.mod_lt _ (by decide)
      refine EuP.t (inR hlt4) (EuP.el (by simpa using hlt4) fun b hb => ?_)
      have hb' : ∃ u, b = bs u ∧ u.length ≤ 2 := by
        simp only [List.mem_cons, List.not_mem_nil, or_false] at hb
        rcases hb with rfl | rfl | rfl | rfl
        · exact ⟨[32], rfl, by decide⟩
        · exact ⟨[9], rfl, by decide⟩
        · exact ⟨[10], rfl, by decide⟩
        · exact ⟨[32, 13], rfl, by decide⟩
      obtain ⟨u, rfl, hu⟩ := hb'
      rw [bs_app]
      refine EuP.t (decide_eq_true (by rw [size_bs, size_bs, List.length_append]; omega)) (ih (i + 1) (w ++ v ++ u) (by omega) (by simp only [List.length_append]; omega))
    refine EuP.t (decide_eq_true (by omega)) (EuP.t (inRm hlt) (EuP.bs (nat_get hlt) ?_))
    rw [hw1]
    have hm48 : Int.tmod ((l[i].toNat : Nat) : Int) 48 = ((l[i].toNat % 48 : Nat) : Int) := tmodN _ 48
    have hm55 : ∀ m : Nat, Int.tmod ((m : Nat) : Int) 55 = ((m % 55 : Nat) : Int) := fun m => tmodN m 55
    refine EuP.c (fun _ => ?_) (fun _ => ?_)
    · rw [hm48, hm55, Int.toNat_natCast]
      have hj : l[i].toNat % 48 % 55 < parts.length := by rw [hn]; exact Nat.mod_lt _ (by decide)
      exact EuP.t (inRm hj) (EuP.el hj fun a ha => tail a ha)
    · rw [hm55, Int.toNat_natCast]
      have hj : l[i].toNat % 55 < parts.length := by rw [hn]; exact Nat.mod_lt _ (by decide)
      exact EuP.t (inRm hj) (EuP.el hj fun a ha => tail a ha)
theorem shrt_bl {k : Nat} {b : ByteArray} (h : b.data.size ≤ k) : Shrt k b := ⟨bl b, (bs_bl b).symm, by simpa [bl] using h⟩
theorem eu_words {l : List UInt8} {tight : Bool} (hl : l.length ≤ maxLen) : EuP (fun n => S.law02_words n l tight) (Shrt 1200) := by
  refine EuP.eq (fun n => rfl) (EuP.bd (eu_words_l0 hl rfl (fun b hb => shrt_bl ?_) 30 0 [] rfl (by simp)) fun a h => EuP.ret h)
  revert b
  decide
/-- Where a text is wrong there is something. -/
theorem Lx.err_lt {at_ : Nat} {s : List UInt8} {l : List (Nat × Tk)} {e : Option Nat} (h : Lx at_ s l e) : ∀ p, e = some p → p < at_ + s.length := by
  induction h with
  | nil => intro p h; cases h
  | err a sp c r hs hc hn => intro p h; cases h; simp only [List.length_append, List.length_cons]; omega
  | tok a sp t r l e hs hn h ih => intro p hp; have := ih p hp; simp only [List.length_append]; omega
theorem Lx.spaced_len {at_ : Nat} {s : List UInt8} {l : List (Nat × Tk)} {e : Option Nat} (h : Lx at_ s l e) : (spaced l).length ≤ 2 * s.length ∧ l.length ≤ s.length := by
  induction h with
  | nil => simp [spaced]
  | err => simp [spaced]
  | tok a sp t r l e hs hn h ih =>
    have hpos : 0 < t.txt.length := List.length_pos_iff.2 (next_spec hn).2.1
    simp only [spaced, List.flatMap_cons, List.length_append, List.length_cons] at ih ⊢
    omega
theorem inKt {l : List LexToken} (h : l.length ≤ 1000000) : inK IntKind.i64 (↑(List.length (List.map LexToken.v l)) : Int) = true := inK_map (by
  show l.length ≤ 4611686018427387904
  omega)
end Go.Im
