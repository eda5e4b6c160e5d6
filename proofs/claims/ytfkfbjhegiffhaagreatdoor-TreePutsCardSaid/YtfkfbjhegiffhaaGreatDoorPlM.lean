/- Plain laws: the program that is made, and statements as a text. -/
import Derived.Test.YtfkfbjhegiffhaaGreatDoorTrA5
import Derived.Test.YtfkfbjhegiffhaaGreatDoorTrA5
import Derived.Test.YtfkfbjhegiffhaaGreatDoorPlS
import Derived.Test.YtfkfbjhegiffhaaGreatDoorPlG
import Derived.Test.YtfkfbjhegiffhaaGreatDoorPlR
set_option linter.unusedVariables false
set_option linter.unusedSimpArgs false
set_option maxRecDepth 10000
namespace Go.Im
/-- A program that is made, for its functions' statements. -/
def madeX (b0 b1 b2 : List TreeStmt) : TreeProg := TreeProg.mk ((TreeFunc.mk ({ data := #[103] }) (({ data := #[112] }) :: ([] : List ByteArray)) ((TreeDecl.mk ({ data := #[114] }) (0)) :: ((TreeDecl.mk ({ data := #[122, 115] }) (2)) :: ([] : List TreeDecl))) b0) :: ((TreeFunc.mk ({ data := #[104] }) (({ data := #[112] }) :: (({ data := #[113] }) :: ([] : List ByteArray))) ((TreeDecl.mk ({ data := #[122, 115] }) (1)) :: ([] : List TreeDecl)) b1) :: ((TreeFunc.mk ({ data := #[109, 97, 105, 110] }) ([] : List ByteArray) ((TreeDecl.mk ({ data := #[97] }) (0)) :: ((TreeDecl.mk ({ data := #[98] }) (0)) :: ((TreeDecl.mk ({ data := #[99] }) (0)) :: ((TreeDecl.mk ({ data := #[100] }) (0)) :: ((TreeDecl.mk ({ data := #[120, 115] }) (3)) :: ((TreeDecl.mk ({ data := #[121, 115] }) (5)) :: ([] : List TreeDecl))))))) b2) :: ([] : List TreeFunc))))
def MadeP (x : TreeProg) : Prop := ∃ b0 b1 b2, x = madeX b0 b1 b2 ∧ (b0.length ≤ 4 ∧ ∀ s ∈ b0, WS 1 s) ∧ (b1.length ≤ 3 ∧ ∀ s ∈ b1, WS 1 s) ∧ (b2.length ≤ 14 ∧ ∀ s ∈ b2, WS 2 s)
theorem fb_of {l : List UInt8} {is ar : List ByteArray} {k : Int} {m : Bool} (hl : l.length ≤ 9223372036854775807) (i0 : 0 < is.length) (i1 : is.length ≤ 10) (iN : ∀ s ∈ is, s ∈ NL) (a0 : 0 < ar.length) (a1 : ar.length ≤ 10) (aN : ∀ s ∈ ar, s ∈ NL) (k0 : 0 ≤ k) (k1 : k ≤ 100) : FB (Law03Feed.mk l 0 is ar k 0 m) :=
  ⟨⟨by show (0:Int) ≤ 0; omega, by show (0:Int) ≤ (l.length : Int); omega, hl, i0, i1, iN, a0, a1, aN⟩, k0, k1, by show (0:Int) ≤ 0; omega, by show (0:Int) + k ≤ 1000; omega⟩
theorem eu_mk {L G : List UInt8} (hL : L.length ≤ 9223372036854775807) (hG : G.length ≤ 9223372036854775807) : EuP (fun n => S.law03_made n L G) MadeP := by
  have hw : IntKind.wrap .i64 (Int.tdiv (↑(List.length (List.map bV G)) : Int) 2) = ((G.length / 2 : Nat) : Int) := by
    rw [List.length_map, Int.tdiv_eq_ediv_of_nonneg (by omega), wrap_id (by omega) (by omega)]; omega
  refine EuP.eq (fun n => rfl) (EuP.t (inK_map' hG) ?_)
  rw [hw, List.length_map]
  refine EuP.t ?_ ?_
  · rw [Bool.and_eq_true, Bool.and_eq_true]
    exact ⟨⟨decide_eq_true (by omega), decide_eq_true (by omega)⟩, decide_eq_true (by omega)⟩
  refine EuP.bd (eu_made 1 4 false _ (by decide) (by decide) (fb_of hG (by decide) (by decide) (by simp [NL]) (by decide) (by decide) (by simp [NL]) (by decide) (by decide))) fun x2 hx2 => ?_
  refine EuP.bd (eu_made 1 3 false _ (by decide) (by decide) (fb_of (by rw [List.length_take, List.length_drop]; omega) (by decide) (by decide) (by simp [NL]) (by decide) (by decide) (by simp [NL]) (by decide) (by decide))) fun x3 hx3 => ?_
  refine EuP.bd (eu_made 2 14 false _ (by decide) (by decide) (fb_of hL (by decide) (by decide) (by simp [NL]) (by decide) (by decide) (by simp [NL]) (by decide) (by decide))) fun x4 hx4 => ?_
  exact EuP.ret ⟨_, _, _, rfl, hx2.1, hx3.1, hx4.1⟩
theorem eu_own {P : TreeProg} {L G : List UInt8} (hL : L.length ≤ 9223372036854775807) (hG : G.length ≤ 9223372036854775807) : EuP (fun n => S.law03_Code_code n (Law03Code.mk P true L G)) MadeP :=
  EuP.eq (fun n => rfl) (EuP.f rfl (EuP.bd (eu_mk hL hG) fun x hx => EuP.ret hx))
theorem txtL_ws {dd : Nat} {l : List TreeStmt} (h : ∀ s ∈ l, WS dd s) (hd : dd ≤ 2) (hl : l.length ≤ 100) : (txtL 0 l).length ≤ 300000000 := by
  have h1 := txtL_bd (d := 0) (B := 3000 * 31 ^ 2) l fun s hs => Nat.le_trans (txtS_bd (h s hs) 0 (by omega)) (Nat.mul_le_mul_left _ (Nat.pow_le_pow_right (by decide) hd))
  have h2 : l.length * (3000 * 31 ^ 2) ≤ 100 * (3000 * 31 ^ 2) := Nat.mul_le_mul_right _ hl
  omega
theorem line_eq (n : Nat) (ps : List ByteArray) (d : Int) : S.tree_writer_line n ps d = S.tree_writer_linev2 n ps d [] := rfl
theorem textOf_bs (l : List UInt8) : textOf (l.map bV) = bs l := by
  have : (l.map bV).map byteOf = l := by
    rw [List.map_map]
    induction l with
    | nil => rfl
    | cons a l ih => rw [List.map_cons, ih]; first | rfl | simp [byteOf, bV]
  unfold textOf bs
  rw [this]
theorem eu_putStmts {dd : Nat} {l : List TreeStmt} (hdd : dd ≤ 2) (hl : l.length ≤ 100) (hw : ∀ s ∈ l, WS dd s) : Eu (fun n => S.tree_PutStmts n l) (bs (txtL 0 l)) := by
  have hb := txtL_ws hw hdd hl
  cases l with
  | nil => exact Eu.bd (a := Sum.inr 0) (Eu.eq (fun n => rfl) (Eu.t rfl (Eu.f rfl (Eu.ret rfl)))) (Eu.bd (Eu.ret rfl) (Eu.ret rfl))
  | cons s l =>
    have hs := hw s (by simp)
    have hB : ∀ t ∈ s :: l, (∀ g', g'.length + (txtL (0 + 1) t.Body).length ≤ 1000000000 → Eu (fun n => S.tree_writer_block n t.Body ((0 : Nat) : Int) g') (((0 : Nat) : Int), g' ++ txtL (0 + 1) t.Body)) ∧
        (∀ g', g'.length + (txtL (0 + 1) t.Else).length ≤ 1000000000 → Eu (fun n => S.tree_writer_block n t.Else ((0 : Nat) : Int) g') (((0 : Nat) : Int), g' ++ txtL (0 + 1) t.Else)) := fun t ht => by
      obtain ⟨_, _, p3, p4⟩ := (hw t ht).parts
      have wk : ∀ {x}, (∃ d', dd = d' + 1 ∧ WS d' x) → WS (dd - 1) x := fun h => by obtain ⟨d', rfl, h⟩ := h; exact h
      exact ⟨fun g' hg => eu_block_of (by omega) (eu_stmts (dd - 1) 1 _ g' (by omega) (by omega) (fun x hx => wk (p3.2 x hx)) hg), fun g' hg => eu_block_of (by omega) (eu_stmts (dd - 1) 1 _ g' (by omega) (by omega) (fun x hx => wk (p4.2 x hx)) hg)⟩
    have next : Eu (fun n => (S.tree_writer_stmts_l0 n (s :: l) (((s :: l).length : Nat) : Int) (IntKind.wrap IntKind.i64 (((0 : Nat) : Int) + 1)) ((0 : Nat) : Int) ([] ++ txtS 0 s)).bind fun x => some (Sum.inl (α := Int × List UInt8) (β := Int) (x.1, x.2))) (Sum.inl (0, txtL 0 (s :: l))) := by
      rw [wrap_s (show 0 < 4611686018427387904 by omega)]
      refine Eu.bd (eu_stmts_l0 (by omega) (by omega) hw hB l.length (0 + 1) _ (by simp; omega) ?_) (Eu.ret ?_)
      · simp only [txtL, List.length_append] at hb
        simp only [List.nil_append, Nat.zero_add, List.drop_succ_cons, List.drop_zero]; omega
      · simp [txtL]
    have go : Eu (fun n => S.tree_writer_stmtsv2 n (s :: l) ((0 : Nat) : Int)) (Sum.inl (0, txtL 0 (s :: l))) := by
      have hg0 : ([] : List UInt8).length + (txtS 0 s).length ≤ 1000000000 := by
        simp only [txtL, List.length_append] at hb
        simp only [List.length_nil]; omega
      have b12 := hB s (by simp)
      refine Eu.eq (fun n => rfl) (Eu.t (inK_map (Nat.le_trans hl (by decide))) (Eu.t (decide_eq_true (by simp)) (Eu.t (inRm (i := 0) (by simp)) (Eu.bs (a := s) rfl ?_))))
      rw [show ((s :: l).map TreeStmt.v).length = (s :: l).length from List.length_map _]
      simp only [line_eq]
      by_cases ht : s.Tag > 0
      · have h21' : (E.FormatInt s.Tag).size ≤ 22 := by rw [size_bl]; exact itoa_len s.Tag
        have q := eu_body (d := 0) (K := fun n d g => (S.tree_writer_stmts_l0 n (s :: l) (((s :: l).length : Nat) : Int) (IntKind.wrap IntKind.i64 (0 + 1)) d g).bind fun x => some (Sum.inl (x.1, x.2))) hs (by decide) _ (tagB_pos ht).symm [] b12.1 b12.2 hg0 next
        refine Eu.t (decide_eq_true ht) (Eu.t (le63 ?_) (Eu.t (le63 ?_) ?_))
        · simp only [size_lit, List.size_toArray, List.length_cons, List.length_nil]; omega
        · simp only [ByteArray.size_append, size_lit, List.size_toArray, List.length_cons, List.length_nil]; omega
        · exact q
      · have q := eu_body (d := 0) (K := fun n d g => (S.tree_writer_stmts_l0 n (s :: l) (((s :: l).length : Nat) : Int) (IntKind.wrap IntKind.i64 (0 + 1)) d g).bind fun x => some (Sum.inl (x.1, x.2))) hs (by decide) _ (tagB_neg ht).symm [] b12.1 b12.2 hg0 next
        exact Eu.f (decide_eq_false ht) q
    exact Eu.bd go (Eu.bd (a := (bs (txtL 0 (s :: l)), 0)) (Eu.eq (fun n => rfl) (Eu.t (inK_map (Nat.le_trans hb (by decide))) (Eu.t (decide_eq_true rfl) (Eu.ret (by rw [textOf_bs]))))) (Eu.ret rfl))
end Go.Im
