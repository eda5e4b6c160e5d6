/- TreeExprs: what the law computes is true. -/
import Derived.Test.YtfkfbjhegiffhaaGreatDoorTrA1
import Derived.Test.YtfkfbjhegiffhaaGreatDoorTrO
import Derived.Test.YtfkfbjhegiffhaaGreatDoorPlI
import Derived.Test.YtfkfbjhegiffhaaGreatDoorPlG
import Derived.Test.YtfkfbjhegiffhaaGreatDoorPlR
set_option linter.unusedVariables false
set_option linter.unusedSimpArgs false
set_option maxRecDepth 10000
namespace Go.Im
theorem fi_of {l : List UInt8} {is ar : List ByteArray} {k : Int} (hl : l.length ≤ 9223372036854775807) (i0 : 0 < is.length) (i1 : is.length ≤ 10) (iN : ∀ s ∈ is, s ∈ NL) (a0 : 0 < ar.length) (a1 : ar.length ≤ 10) (aN : ∀ s ∈ ar, s ∈ NL) : FI (Law03Feed.mk l 0 is ar 0 0 false) :=
  ⟨by show (0:Int) ≤ 0; omega, by show (0:Int) ≤ (l.length : Int); omega, hl, i0, i1, iN, a0, a1, aN⟩
open Classical in
theorem Pure.TreeExprs {H : Type} {d0 d1 : DataW H} (a0 a1 : List UInt8) (a2 : Bool) (g0 : goodL (fun _ _ => True) a0 d0) (g1 : goodL (fun _ _ => True) a1 d1) (_ : True) : ∃ n, S.law03_TreeExprs n a0 a1 a2 = some true := by
  have hmx : maxLen ≤ 9223372036854775807 := by decide
  have h0 := Nat.le_trans g0.1 hmx
  have h1 := Nat.le_trans g1.1 hmx
  have go : ∀ (l m : List UInt8), l.length ≤ 9223372036854775807 → m.length ≤ 9223372036854775807 → Eu (fun n => ((S.law03_feed_expr n (4) (Law03Feed.mk (l) (0) (({ data := #[97] }) :: (({ data := #[98] }) :: ([] : List ByteArray))) (({ data := #[120, 115] }) :: ([] : List ByteArray)) (0) (0) (false))).bind fun x1 => ((S.law03_feed_expr n (4) (Law03Feed.mk (m) (0) (({ data := #[97] }) :: (({ data := #[98] }) :: ([] : List ByteArray))) (({ data := #[120, 115] }) :: ([] : List ByteArray)) (0) (0) (false))).bind fun x2 => ((S.tree_RightExpr n x1.1).bind fun x3 => (bif x3 then ((S.tree_RightExpr n x2.1).bind fun x5 => (bif x5 then ((S.tree_PutExpr n x1.1).bind fun x7 => ((S.tree_PutExpr n x2.1).bind fun x8 => ((S.tree_SameExpr n x1.1 x2.1).bind fun x9 => (some ((ByteArray.toList x7 == ByteArray.toList x8) == x9))))) else (some (false)))) else (some (false))))))) true := fun l m hl hm => by
    obtain ⟨x, rx, wx, _⟩ := eu_expr 4 _ (by decide) (fi_of (k := 0) (is := [{ data := #[97] }, { data := #[98] }]) (ar := [{ data := #[120, 115] }]) hl (by decide) (by decide) (by simp [NL]) (by decide) (by decide) (by simp [NL]))
    obtain ⟨y, ry, wy, _⟩ := eu_expr 4 _ (by decide) (fi_of (k := 0) (is := [{ data := #[97] }, { data := #[98] }]) (ar := [{ data := #[120, 115] }]) hm (by decide) (by decide) (by simp [NL]) (by decide) (by decide) (by simp [NL]))
    refine Eu.bd rx (Eu.bd ry (Eu.bd (eu_rightE wx) (Eu.t rfl (Eu.bd (eu_rightE wy) (Eu.t rfl (Eu.bd (eu_putE wx (by decide)) (Eu.bd (eu_putE wy (by decide)) (Eu.bd (eu_sameE wx wy) (Eu.ret ?_)))))))))
    rw [beq_ba]
    by_cases h : x.1 = y.1
    · rw [h, decide_eq_true rfl, decide_eq_true rfl]; rfl
    · rw [decide_eq_false h, decide_eq_false fun he => h (putE_inj wx wy (by rw [← bl_bs (putE x.1), ← bl_bs (putE y.1), he]))]; rfl
  refine Eu.get (Eu.eq (fun n => rfl) ?_)
  cases a2 with
  | true => exact Eu.t rfl (go a0 a0 h0 h0)
  | false => exact Eu.f rfl (go a0 a1 h0 h1)
end Go.Im
