/- TreePuts: what the law computes is true. -/
import Derived.Test.YtfkfbjhegiffhaaGreatDoorTrA6
import Derived.Test.YtfkfbjhegiffhaaGreatDoorTrO
import Derived.Test.YtfkfbjhegiffhaaGreatDoorPlP
import Derived.Test.YtfkfbjhegiffhaaGreatDoorPlJ
import Derived.Test.YtfkfbjhegiffhaaGreatDoorPlR
set_option linter.unusedVariables false
set_option linter.unusedSimpArgs false
set_option maxRecDepth 10000
namespace Go.Im
/-- Is each one so? (of functions that do not recur) -/
theorem eu_allN {α : Type} {F : Nat → List α → Int → Int → Option (Int ⊕ Unit)} {enc : α → V} {p : Nat → α → Option Bool} {q : α → Bool}
    (hF : ∀ n s len i, F (n + 1) s len i = (bif decide (i < len) then (bif inRange i (List.length (List.map enc s)) then ((s[Int.toNat i]?).bind fun x2 => ((p n x2).bind fun x3 => (bif x3 then (some (Sum.inl i)) else (F n s len (IntKind.wrap IntKind.i64 (i + 1)))))) else none) else (some (Sum.inr ()))))
    {Ix : Nat → List α → Option Int} (hI : ∀ n a0, Ix n a0 = (bif inK IntKind.i64 (↑(List.length (List.map enc a0)) : Int) then ((F n (a0) ((↑(List.length (List.map enc a0)) : Int)) (0)).bind fun x1 => match x1 with | (Sum.inl x1) => (some (x1)) | (Sum.inr x1) => (some (-1))) else none))
    {Co : Nat → List α → Option Bool} (hC : ∀ n a0, Co n a0 = ((Ix n (a0)).bind fun x0 => (some (decide (x0 ≥ 0)))))
    {Al : Nat → List α → Option Bool} (hA : ∀ n a0, Al n a0 = ((Co n (a0)).bind fun x0 => (some (!x0))))
    (l : List α) (hl : l.length ≤ LM) (hp : ∀ x ∈ l, Eu (fun n => p n x) (!q x)) : Eu (fun n => Al n l) (l.all q) := by
  obtain ⟨r, h1, h2, h3⟩ := eu_index hF l hl hp
  have hany : l.any (fun x => !q x) = !l.all q := by simp [List.all_eq_not_any_not]
  cases hq : l.all q with
  | true =>
    obtain rfl := h3 (by rw [hany, hq]; rfl)
    exact Eu.eq (fun n => hA n _) (Eu.bd (a := false) (Eu.eq (fun n => hC n _) (Eu.bd (a := -1) (Eu.eq (fun n => hI n _) (Eu.t (inK_map hl) (Eu.bd (a := Sum.inr ()) (by simpa only [List.length_map] using h1) (Eu.ret rfl)))) (Eu.ret (by decide)))) (Eu.ret rfl))
  | false =>
    obtain ⟨k, rfl⟩ := h2 (by rw [hany, hq]; rfl)
    exact Eu.eq (fun n => hA n _) (Eu.bd (a := true) (Eu.eq (fun n => hC n _) (Eu.bd (a := (k : Int)) (Eu.eq (fun n => hI n _) (Eu.t (inK_map hl) (Eu.bd (a := Sum.inl (k : Int)) (by simpa only [List.length_map] using h1) (Eu.ret rfl)))) (Eu.ret (by simp)))) (Eu.ret rfl))
open Classical in
/-- Are two lists the same? (of functions that do not recur) -/
theorem eu_sameN {α : Type} {F : Nat → List α → List α → Int → Int → Option (Bool ⊕ Unit)} {enc : α → V} {p : Nat → α → α → Option Bool}
    (hF : ∀ n s1 s15 s16 s17, F (n + 1) s1 s15 s16 s17 = (bif decide (s17 < s16) then (bif inRange s17 (List.length (List.map enc s15)) then ((s15[Int.toNat s17]?).bind fun x2 => (bif inRange s17 (List.length (List.map enc s1)) then ((s1[Int.toNat s17]?).bind fun x4 => ((p n x2 x4).bind fun x5 => (bif !x5 then (some (Sum.inl (false))) else (F n (s1) (s15) (s16) (IntKind.wrap IntKind.i64 (s17 + 1)))))) else none)) else none) else (some (Sum.inr ()))))
    {E : Nat → List α → List α → Option Bool} (hE : ∀ n a0 a1, E n a0 a1 = (bif inK IntKind.i64 (↑(List.length (List.map enc a0)) : Int) then (bif inK IntKind.i64 (↑(List.length (List.map enc a1)) : Int) then (bif (↑(List.length (List.map enc a0)) : Int) != (↑(List.length (List.map enc a1)) : Int) then (some (false)) else ((F n (a1) (a0) ((↑(List.length (List.map enc a0)) : Int)) (0)).bind fun x4 => match x4 with | (Sum.inl x4) => (some (x4)) | (Sum.inr x4) => (some (true)))) else none) else none))
    (a b : List α) (hl : a.length ≤ LM) (hl' : b.length ≤ LM) (hp : ∀ x ∈ a, ∀ y ∈ b, Eu (fun n => p n x y) (decide (x = y))) : Eu (fun n => E n a b) (decide (a = b)) := by
  have h := eu_same (E := fun n a b => match n with | 0 => none | n + 1 => E n a b) hF (fun n a0 a1 => hE n a0 a1) a b hl hl' hp
  obtain ⟨N, h⟩ := h
  exact ⟨N, fun n hn => h (n + 1) (by omega)⟩
theorem par_right : ∀ m : Nat, ([PAR0, PAR1, []].all fun l => S.tree_all_string_lex_IsName (m + 60) l == some true) = true := fun m => by kernel_rfl
theorem var_right : ∀ m : Nat, ([VAR0, VAR1, VAR2].all fun l => S.tree_all_TreeDecl_tree_Decl_right (m + 60) l == some true) = true := fun m => by kernel_rfl
theorem par_same : ∀ m : Nat, ([PAR0, PAR1, []].all fun l => S.slices_Equal_string (m + 60) l l == some true) = true := fun m => by kernel_rfl
theorem var_same : ∀ m : Nat, ([VAR0, VAR1, VAR2].all fun l => S.slices_Equal_TreeDecl (m + 60) l l == some true) = true := fun m => by kernel_rfl
theorem eu60 {α β : Type} [BEq β] [LawfulBEq β] {F : Nat → α → Option β} {r : β} {l : List α} (h : ∀ m : Nat, (l.all fun x => F (m + 60) x == some r) = true) {x : α} (hx : x ∈ l) : Eu (fun n => F n x) r := by
  refine ⟨60, fun n hn => ?_⟩
  obtain ⟨m, rfl⟩ : ∃ m, n = m + 60 := ⟨n - 60, by omega⟩
  exact eq_of_beq (List.all_eq_true.1 (h m) x hx)
theorem eu_rightF {nm : ByteArray} {par : List ByteArray} {vars : List TreeDecl} {b : List TreeStmt} (h1 : nm ∈ NL) (h2 : par ∈ [PAR0, PAR1, []]) (h3 : vars ∈ [VAR0, VAR1, VAR2]) {d : Nat} (hb : b.length ≤ 1000) (w : ∀ s ∈ b, WS d s) : Eu (fun n => S.tree_Func_right n ⟨nm, par, vars, b⟩) true :=
  Eu.eq (fun n => rfl) (Eu.bd (eu_isName h1) (Eu.t rfl (Eu.bd (eu60 par_right h2) (Eu.t rfl (Eu.bd (eu60 var_right h3) (Eu.t rfl (Eu.bd (eu_rightL d b hb w) (Eu.ret rfl))))))))
open Classical in
theorem eu_sameF {nm : ByteArray} {par : List ByteArray} {vars : List TreeDecl} {b c : List TreeStmt} (h2 : par ∈ [PAR0, PAR1, []]) (h3 : vars ∈ [VAR0, VAR1, VAR2]) {d : Nat} (hb : b.length ≤ 1000) (w : ∀ s ∈ b, WS d s) (hc : c.length ≤ 1000) (wc : ∀ s ∈ c, WS d s) : Eu (fun n => S.tree_Func_same n ⟨nm, par, vars, b⟩ ⟨nm, par, vars, c⟩) (decide ((⟨nm, par, vars, b⟩ : TreeFunc) = ⟨nm, par, vars, c⟩)) := by
  refine Eu.eq (fun n => rfl) (Eu.t (beq_self_eq_true _) (Eu.bd (eu60 (F := fun n l => S.slices_Equal_string n l l) par_same h2) (Eu.t rfl (Eu.bd (eu60 (F := fun n l => S.slices_Equal_TreeDecl n l l) var_same h3) (Eu.t rfl (Eu.bd (eu_sameL w wc hb hc) (Eu.ret ?_)))))))
  by_cases h : b = c
  · subst h; rw [decide_eq_true rfl, decide_eq_true rfl]
  · rw [decide_eq_false h, decide_eq_false fun he => h (TreeFunc.mk.inj he).2.2.2]
theorem eu_right {b0 b1 b2 : List TreeStmt} (h0 : b0.length ≤ 4 ∧ ∀ s ∈ b0, WS 1 s) (h1 : b1.length ≤ 3 ∧ ∀ s ∈ b1, WS 1 s) (h2 : b2.length ≤ 14 ∧ ∀ s ∈ b2, WS 2 s) : Eu (fun n => S.tree_Right n (madeX b0 b1 b2)) true := by
  refine Eu.eq (fun n => rfl) (Eu.bd (a := true) ?_ (Eu.ret rfl))
  have := eu_allN (q := fun _ => true) (F := S.slices_IndexFunc_TreeFunc_tree_all_TreeFunc_k1_l0) (enc := TreeFunc.v) (p := S.tree_all_TreeFunc_k1) (Ix := S.slices_IndexFunc_TreeFunc_tree_all_TreeFunc_k1) (Co := S.slices_ContainsFunc_TreeFunc_tree_all_TreeFunc_k1) (Al := S.tree_all_TreeFunc_tree_Func_right) (fun n s len i => S.slices_IndexFunc_TreeFunc_tree_all_TreeFunc_k1_l0.eq_2 ..) (fun n a => rfl) (fun n a => rfl) (fun n a => rfl) (madeX b0 b1 b2).Funcs (show 3 ≤ LM by decide) (fun x hx => by
    simp only [madeX, List.mem_cons, List.not_mem_nil, or_false] at hx
    refine Eu.eq (fun n => rfl) (Eu.bd (a := true) ?_ (Eu.ret rfl))
    rcases hx with rfl | rfl | rfl
    · exact eu_rightF (by simp [NL]) (par := PAR0) (by simp) (vars := VAR0) (by simp) (by omega) h0.2
    · exact eu_rightF (by simp [NL]) (par := PAR1) (by simp) (vars := VAR1) (by simp) (by omega) h1.2
    · exact eu_rightF (by simp [NL]) (par := []) (by simp) (vars := VAR2) (by simp) (by omega) h2.2)
  rwa [show ((madeX b0 b1 b2).Funcs.all fun _ => true) = true from List.all_eq_true.2 fun _ _ => rfl] at this
open Classical in
theorem eu_sameP {b0 b1 b2 c0 c1 c2 : List TreeStmt} (h0 : b0.length ≤ 4 ∧ ∀ s ∈ b0, WS 1 s) (h1 : b1.length ≤ 3 ∧ ∀ s ∈ b1, WS 1 s) (h2 : b2.length ≤ 14 ∧ ∀ s ∈ b2, WS 2 s) (k0 : c0.length ≤ 4 ∧ ∀ s ∈ c0, WS 1 s) (k1 : c1.length ≤ 3 ∧ ∀ s ∈ c1, WS 1 s) (k2 : c2.length ≤ 14 ∧ ∀ s ∈ c2, WS 2 s) :
    Eu (fun n => S.tree_Same n (madeX b0 b1 b2) (madeX c0 c1 c2)) (decide ((madeX b0 b1 b2).Funcs = (madeX c0 c1 c2).Funcs)) := by
  refine Eu.eq (fun n => rfl) (Eu.bd (a := decide ((madeX b0 b1 b2).Funcs = (madeX c0 c1 c2).Funcs)) ?_ (Eu.ret rfl))
  refine eu_sameN (F := S.slices_EqualFunc_TreeFunc_tree_Func_same_l0) (enc := TreeFunc.v) (p := S.tree_Func_same) (E := S.slices_EqualFunc_TreeFunc_tree_Func_same) (fun n s1 s15 s16 s17 => S.slices_EqualFunc_TreeFunc_tree_Func_same_l0.eq_2 ..) (fun n a b => rfl) _ _ (show 3 ≤ LM by decide) (show 3 ≤ LM by decide) fun x hx y hy => ?_
  simp only [madeX, List.mem_cons, List.not_mem_nil, or_false] at hx hy
  have ne : ∀ {x y : TreeFunc}, (ByteArray.toList x.Name == ByteArray.toList y.Name) = false → Eu (fun n => S.tree_Func_same n x y) (decide (x = y)) := fun {x y} h => by
    refine Eu.eq (fun n => rfl) (Eu.f h (Eu.ret ?_))
    refine (decide_eq_false fun he => ?_).symm
    subst he
    rw [beq_self_eq_true] at h; cases h
  rcases hx with rfl | rfl | rfl <;> rcases hy with rfl | rfl | rfl
  · exact eu_sameF (par := PAR0) (by simp) (vars := VAR0) (by simp) (by omega) h0.2 (by omega) k0.2
  · exact ne (show (ByteArray.toList ({ data := #[103] } : ByteArray) == ByteArray.toList ({ data := #[104] } : ByteArray)) = false by decide +kernel)
  · exact ne (show (ByteArray.toList ({ data := #[103] } : ByteArray) == ByteArray.toList ({ data := #[109, 97, 105, 110] } : ByteArray)) = false by decide +kernel)
  · exact ne (show (ByteArray.toList ({ data := #[104] } : ByteArray) == ByteArray.toList ({ data := #[103] } : ByteArray)) = false by decide +kernel)
  · exact eu_sameF (par := PAR1) (by simp) (vars := VAR1) (by simp) (by omega) h1.2 (by omega) k1.2
  · exact ne (show (ByteArray.toList ({ data := #[104] } : ByteArray) == ByteArray.toList ({ data := #[109, 97, 105, 110] } : ByteArray)) = false by decide +kernel)
  · exact ne (show (ByteArray.toList ({ data := #[109, 97, 105, 110] } : ByteArray) == ByteArray.toList ({ data := #[103] } : ByteArray)) = false by decide +kernel)
  · exact ne (show (ByteArray.toList ({ data := #[109, 97, 105, 110] } : ByteArray) == ByteArray.toList ({ data := #[104] } : ByteArray)) = false by decide +kernel)
  · exact eu_sameF (par := []) (by simp) (vars := VAR2) (by simp) (by omega) h2.2 (by omega) k2.2
def HD (nm : ByteArray) (par : List ByteArray) (vars : List TreeDecl) : List UInt8 := lineT 0 [⟨#[102, 117, 110, 99, 32]⟩, nm, ⟨#[40]⟩, jnB par, ⟨#[41, 32, 123]⟩] ++ lineT 1 [⟨#[118, 97, 114, 32]⟩, jnB (vars.map declB), ⟨#[59]⟩]
theorem funT_eq (nm : ByteArray) (par : List ByteArray) (vars : List TreeDecl) (b : List TreeStmt) (r : List UInt8) : funT ⟨nm, par, vars, b⟩ ++ r = HD nm par vars ++ (txtL 1 b ++ (List.replicate 0 9 ++ 125 :: (10 :: r))) := by
  have e : lineT 0 [⟨#[125]⟩] = [125, 10] := rfl
  rw [funT, HD, e]
  simp only [List.append_assoc, List.replicate_zero, List.nil_append, List.cons_append]
theorem funT_inj {nm : ByteArray} {par : List ByteArray} {vars : List TreeDecl} {b c : List TreeStmt} {r r' : List UInt8} {d : Nat} (hb : ∀ s ∈ b, WS d s) (hc : ∀ s ∈ c, WS d s) (h : funT ⟨nm, par, vars, b⟩ ++ r = funT ⟨nm, par, vars, c⟩ ++ r') : b = c ∧ r = r' := by
  rw [funT_eq, funT_eq] at h
  have h := List.append_cancel_left h
  have e1 := rd_list (d := 1) hb 0 (10 :: r)
  have e2 := rd_list (d := 1) hc 0 (10 :: r')
  rw [← h] at e2
  have e := Eu.one e1 e2
  exact ⟨congrArg Prod.fst e, by
    have := congrArg Prod.snd e
    simpa using this⟩
theorem madeT_inj {b0 b1 b2 c0 c1 c2 : List TreeStmt} (h0 : ∀ s ∈ b0, WS 1 s) (h1 : ∀ s ∈ b1, WS 1 s) (h2 : ∀ s ∈ b2, WS 2 s) (k0 : ∀ s ∈ c0, WS 1 s) (k1 : ∀ s ∈ c1, WS 1 s) (k2 : ∀ s ∈ c2, WS 2 s) (h : madeT b0 b1 b2 = madeT c0 c1 c2) : b0 = c0 ∧ b1 = c1 ∧ b2 = c2 := by
  have e : ∀ b0 b1 b2, madeT b0 b1 b2 = funT ⟨{ data := #[103] }, PAR0, VAR0, b0⟩ ++ (funT ⟨{ data := #[104] }, PAR1, VAR1, b1⟩ ++ (funT ⟨{ data := #[109, 97, 105, 110] }, [], VAR2, b2⟩ ++ [])) := fun _ _ _ => rfl
  rw [e, e] at h
  obtain ⟨e0, h⟩ := funT_inj h0 k0 h
  obtain ⟨e1, h⟩ := funT_inj h1 k1 h
  obtain ⟨e2, _⟩ := funT_inj h2 k2 h
  exact ⟨e0, e1, e2⟩
open Classical in
theorem Pure.TreePuts {H : Type} {d0 d1 : DataW H} (a0 a1 : Law03Code) (a2 : Bool) (g0 : Law03Code.gd a0 d0) (g1 : Law03Code.gd a1 d1) (_ : True) : ∃ n, S.law03_TreePuts n a0 a1 a2 = some true := by
  obtain ⟨ds0, _, _, _, ⟨_, _, hl0⟩, ⟨_, _, hg0⟩⟩ := g0
  obtain ⟨ds1, _, _, _, ⟨_, _, hl1⟩, ⟨_, _, hg1⟩⟩ := g1
  have hm : maxLen ≤ 9223372036854775807 := by decide
  obtain ⟨x0, r0, b0, b1, b2, rfl, hb0, hb1, hb2⟩ := eu_own (P := a0.P) (Nat.le_trans hl0.1 hm) (Nat.le_trans hg0.1 hm)
  obtain ⟨x1, r1, c0, c1, c2, rfl, hc0, hc1, hc2⟩ := eu_own (P := a1.P) (Nat.le_trans hl1.1 hm) (Nat.le_trans hg1.1 hm)
  refine Eu.get (Eu.eq (fun n => rfl) ?_)
  cases a2 with
  | true =>
    refine Eu.t rfl (Eu.bd r0 (Eu.bd r0 (Eu.bd (eu_PutX hb0 hb1 hb2) (Eu.bd (eu_PutX hb0 hb1 hb2) (Eu.bd (eu_sameP hb0 hb1 hb2 hb0 hb1 hb2) (Eu.t ?_ (Eu.bd (eu_right hb0 hb1 hb2) (Eu.t rfl (Eu.bd (eu_right hb0 hb1 hb2) (Eu.ret rfl))))))))))
    rw [beq_ba, decide_eq_true rfl, decide_eq_true rfl]; rfl
  | false =>
    refine Eu.f rfl (Eu.bd r0 (Eu.bd r1 (Eu.bd (eu_PutX hb0 hb1 hb2) (Eu.bd (eu_PutX hc0 hc1 hc2) (Eu.bd (eu_sameP hb0 hb1 hb2 hc0 hc1 hc2) (Eu.t ?_ (Eu.bd (eu_right hb0 hb1 hb2) (Eu.t rfl (Eu.bd (eu_right hc0 hc1 hc2) (Eu.ret rfl))))))))))
    rw [beq_ba]
    by_cases h : b0 = c0 ∧ b1 = c1 ∧ b2 = c2
    · obtain ⟨rfl, rfl, rfl⟩ := h
      rw [decide_eq_true rfl, decide_eq_true rfl]; rfl
    · rw [decide_eq_false fun he => h (madeT_inj hb0.2 hb1.2 hb2.2 hc0.2 hc1.2 hc2.2 (by rw [← bl_bs (madeT b0 b1 b2), ← bl_bs (madeT c0 c1 c2), he])), decide_eq_false fun he => h ?_]; rfl
      simp only [madeX, List.cons.injEq, TreeFunc.mk.injEq, true_and, and_true] at he
      exact he
end Go.Im
