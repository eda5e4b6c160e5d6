/- LexNames: what the law computes is true. -/
import Derived.Test.YtgklcbmaidpbjaaDoorLxA0
import Derived.Test.YtgklcbmaidpbjaaDoorTrO
import Derived.Test.YtgklcbmaidpbjaaDoorPlY
set_option linter.unusedVariables false
set_option linter.unusedSimpArgs false
set_option maxRecDepth 10000
namespace Go.Im
theorem inKl {α : Type} {f : α → V} {l : List α} (h : l.length ≤ maxLen) : inK .i64 (((l.map f).length : Nat) : Int) = true := by
  have hm : maxLen ≤ 9223372036854775807 := by decide
  rw [List.length_map]
  show (decide ((-9223372036854775808 : Int) ≤ (l.length : Int)) && decide ((l.length : Int) ≤ (9223372036854775807 : Int))) = true
  rw [decide_eq_true (by omega), decide_eq_true (by omega)]; rfl
theorem txt1 (z : V) (b : Bool) (c : UInt8) : textOf (List.set (List.replicate 1 z) 0 (V.int b IntKind.u8 (c.toNat : Int))) = bs [c] := by
  show (⟨#[UInt8.ofNat (Int.toNat (c.toNat : Int))]⟩ : ByteArray) = ⟨#[c]⟩
  rw [Int.toNat_natCast]; simp
def TENB : List UInt8 := [97, 98, 99, 122, 65, 90, 48, 49, 57, 95]
theorem ten_bo : ∀ c ∈ TENB, isBo c = true := by decide
theorem eu_names_l0 {l : List UInt8} {c : Bool} (hl : l.length ≤ maxLen) : ∀ (k i : Nat) (w : List UInt8), i + k = 30 → w.length ≤ 1 + i → EuP (fun n => S.law02_LexNames_l0 n l c (bs w) (i : Int)) (fun r => r.1 = c ∧ ∃ w', r.2 = bs (w ++ w') ∧ (∀ x ∈ w', isBo x = true) ∧ w'.length ≤ k) := by
  intro k
  induction k with
  | zero =>
    intro i w hi hw
    refine EuP.succ (fun n => S.law02_LexNames_l0.eq_2 ..) (EuP.t (inKl hl) (EuP.c (fun _ => EuP.f (decide_eq_false (by omega)) (EuP.ret ⟨rfl, [], by simp, by simp, by simp⟩)) (fun _ => EuP.ret ⟨rfl, [], by simp, by simp, by simp⟩)))
  | succ k ih =>
    intro i w hi hw
    refine EuP.succ (fun n => S.law02_LexNames_l0.eq_2 ..) (EuP.t (inKl hl) (EuP.c (fun hc => ?_) (fun _ => EuP.ret ⟨rfl, [], by simp, by simp, by simp⟩)))
    have hlt : i < l.length := by
      have := of_decide_eq_true hc
      rw [List.length_map] at this; omega
    refine EuP.t (decide_eq_true (by omega)) (EuP.t (inRm hlt) (EuP.bs (nat_get hlt) ?_))
    have hm : Int.tmod ((l[i].toNat : Nat) : Int) 10 = ((l[i].toNat % 10 : Nat) : Int) := tmodN _ 10
    have hlt10 : l[i].toNat % 10 < TENB.length := Nat.mod_lt _ (by decide)
    have hd : Option.getD (Array.toList (ByteArray.data ({ data := #[97, 98, 99, 122, 65, 90, 48, 49, 57, 95] } : ByteArray)))[Int.toNat (Int.tmod (↑(UInt8.toNat l[i]) : Int) 10)]? 0 = TENB[l[i].toNat % 10] := by
      rw [hm, Int.toNat_natCast]
      show Option.getD TENB[l[i].toNat % 10]? 0 = _
      rw [List.getElem?_eq_getElem hlt10]; rfl
    rw [hd, txt1, hm, bs_app]
    refine EuP.t (inR hlt10) (EuP.t (decide_eq_true ?_) ?_)
    · rw [size_bs, size_bs]; simp only [List.length_cons, List.length_nil]; omega
    · rw [wrap_s (show i < 4611686018427387904 by omega)]
      refine (ih (i + 1) (w ++ [TENB[l[i].toNat % 10]]) (by omega) (by simp; omega)).mono ?_
      rintro r ⟨h1, w', h2, h3, h4⟩
      refine ⟨h1, TENB[l[i].toNat % 10] :: w', by rw [h2]; simp, fun x hx => ?_, by simp; omega⟩
      rcases List.mem_cons.1 hx with rfl | hx
      · exact ten_bo _ (List.getElem_mem hlt10)
      · exact h3 x hx
theorem key_k : ∀ k ∈ KEYL, k.head? ≠ some 107 := by decide
theorem Pure.LexNames {H : Type} {d0 : DataW H} (a0 : List UInt8) (g0 : goodL (fun _ _ => True) a0 d0) : ∃ n, S.law02_LexNames n a0 = some true := by
  obtain ⟨x0, r0, h1, w, h2, hw, hlen⟩ := eu_names_l0 (c := true) g0.1 30 0 [107] rfl (by simp)
  obtain ⟨x01, x02⟩ := x0
  dsimp only at h1 h2
  subst h1 h2
  have hall : ∀ x ∈ (107 : UInt8) :: w, isBo x = true := fun x hx => by
    rcases List.mem_cons.1 hx with rfl | hx
    · rfl
    · exact hw x hx
  have htw : ((107 : UInt8) :: w).takeWhile isBo = 107 :: w := by
    have := (tw_app (p := isBo) (w := 107 :: w) (r := []) hall rfl).1
    simpa using this
  have hk : ¬ ((107 : UInt8) :: w ∈ KEYL) := fun h => key_k _ h rfl
  have hL : ((107 : UInt8) :: w).length ≤ 31 := by simp; omega
  have hnx : nextT (107 :: w) = if ((107 : UInt8) :: w).length ≤ 24 then some ⟨1, 107 :: w, 0⟩ else none := by
    rw [nextT, if_pos (show isLt 107 = true from rfl), htw, if_neg hk]
  have hnm := eu_isName (c := 107) (w := w) rfl hall (by omega)
  rw [decide_eq_false hk, Bool.not_false, Bool.and_true] at hnm
  refine Eu.get (Eu.eq (fun n => rfl) (Eu.bd r0 ?_))
  dsimp only [List.cons_append, List.nil_append]
  by_cases h24 : ((107 : UInt8) :: w).length ≤ 24
  · rw [if_pos h24] at hnx
    have hx := Lx.tok 0 [] ⟨1, 107 :: w, 0⟩ [] [] none (by simp) (by rw [List.append_nil]; exact hnx) (.nil _ [] (by simp))
    simp only [List.nil_append, List.append_nil] at hx
    have hA := eu_All (by omega) hx
    rw [decide_eq_true h24] at hnm
    refine Eu.bd hA (Eu.t (inKs (by omega)) (Eu.f (decide_eq_false (by rw [size_bs]; omega)) (Eu.t rfl (Eu.t rfl (Eu.t rfl (Eu.t rfl (Eu.t rfl (Eu.bs rfl (Eu.t rfl (Eu.t (beq_self_eq_true _) (Eu.bd hnm (Eu.t rfl (Eu.bd (Eu.eq (fun n => isKey_eq n _) (Eu.ret rfl)) (Eu.t (by rw [decide_eq_false hk]; rfl) (Eu.ret ?_)))))))))))))))
    rw [size_bs]; exact beq_self_eq_true _
  · rw [if_neg h24] at hnx
    have hx := Lx.err 0 [] 107 w (by simp) rfl hnx
    simp only [List.nil_append] at hx
    have hA := eu_All (by simp; omega) hx
    rw [decide_eq_false h24] at hnm
    exact Eu.bd hA (Eu.t (inKs (by omega)) (Eu.t (decide_eq_true (by rw [size_bs]; omega)) (Eu.t rfl (Eu.t rfl (Eu.t rfl (Eu.bd hnm (Eu.ret rfl)))))))
end Go.Im
