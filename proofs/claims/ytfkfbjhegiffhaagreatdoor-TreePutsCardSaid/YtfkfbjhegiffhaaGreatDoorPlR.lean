/- Plain laws (PlR, PlQ, PlR2). -/
import Derived.Test.YtfkfbjhegiffhaaGreatDoorTrA5
import Derived.Test.YtfkfbjhegiffhaaGreatDoorTrA0
import Derived.Test.YtfkfbjhegiffhaaGreatDoorPlA
import Derived.Test.YtfkfbjhegiffhaaGreatDoorTrA5
import Derived.Test.YtfkfbjhegiffhaaGreatDoorTrA0
/- Plain laws: what is made is right. -/
set_option linter.unusedVariables false
set_option linter.unusedSimpArgs false
set_option maxRecDepth 100000
namespace Go.Im
theorem isName_all : ∀ m : Nat, (NL.all fun nm => S.lex_IsName (m + 30) nm == some true) = true := fun m => by kernel_rfl
theorem eu_isName {nm : ByteArray} (h : nm ∈ NL) : Eu (fun n => S.lex_IsName n nm) true := by
  refine ⟨30, fun n hn => ?_⟩
  obtain ⟨m, rfl⟩ : ∃ m, n = m + 30 := ⟨n - 30, by omega⟩
  have := List.all_eq_true.1 (isName_all m) nm h
  simpa using this
theorem unary_all : ∀ m : Nat, (UL.all fun o => (S.word_Unary m o 0).any (fun r => r.2)) = true := fun m => by kernel_rfl
theorem eu_unary {o : ByteArray} (h : o ∈ UL) : ∃ r, Eu (fun n => S.word_Unary n o 0) (r, true) := by
  have h0 := List.all_eq_true.1 (unary_all 0) o h
  cases hr : S.word_Unary 0 o 0 with
  | none => rw [hr] at h0; cases h0
  | some r =>
    rw [hr] at h0
    obtain ⟨r, b⟩ := r
    simp only [Option.any_some] at h0
    subst h0
    exact ⟨r, 0, fun n _ => hr⟩
theorem lev_pos : (BOL.all fun o => !(lev o == 0)) = true := by kernel_rfl
theorem eu_allE {l : List TreeExpr} (hl : l.length ≤ 1000) (h : ∀ e ∈ l, Eu (fun n => S.tree_RightExpr n e) true) : Eu (fun n => S.tree_all_TreeExpr_tree_RightExpr n l) true :=
  (eu_all (q := fun _ => true) (enc := TreeExpr.v) (F := S.slices_IndexFunc_TreeExpr_tree_all_TreeExpr_k1_l0) (p := S.tree_all_TreeExpr_k1) (by intros; first | (rw [S.slices_IndexFunc_TreeExpr_tree_all_TreeExpr_k1_l0]; done) | (rw [S.slices_IndexFunc_TreeExpr_tree_all_TreeExpr_k1_l0]; rfl)) (Ix := S.slices_IndexFunc_TreeExpr_tree_all_TreeExpr_k1) (by intros; first | (rw [S.slices_IndexFunc_TreeExpr_tree_all_TreeExpr_k1]; done) | (rw [S.slices_IndexFunc_TreeExpr_tree_all_TreeExpr_k1]; rfl)) (Co := S.slices_ContainsFunc_TreeExpr_tree_all_TreeExpr_k1) (by intros; first | (rw [S.slices_ContainsFunc_TreeExpr_tree_all_TreeExpr_k1]; done) | (rw [S.slices_ContainsFunc_TreeExpr_tree_all_TreeExpr_k1]; rfl)) (Al := S.tree_all_TreeExpr_tree_RightExpr) (by intros; first | (rw [S.tree_all_TreeExpr_tree_RightExpr]; done) | (rw [S.tree_all_TreeExpr_tree_RightExpr]; rfl)) l (Nat.le_trans hl (by decide))
    (fun x hx => Eu.succ (fun n => S.tree_all_TreeExpr_k1.eq_2 ..) (Eu.bd (h x hx) (Eu.ret rfl)))).cast (by simp)
theorem kidsR {l : List TreeExpr} (h : l.length ≤ 100) : inK .i64 (((l.map TreeExpr.v).length : Nat) : Int) = true := inK_map (Nat.le_trans h (by decide))
theorem eu_rightE {d : Nat} {e : TreeExpr} (h : WE d e) : Eu (fun n => S.tree_RightExpr n e) true := by
  have e0e : (ByteArray.toList e0 == ByteArray.toList { data := #[] }) = true := by simp
  induction h with
  | num d n hn =>
    exact Eu.succ (fun n => S.tree_RightExpr.eq_2 ..) (Eu.bd (eu_allE (by simp) (fun e h => by simp at h)) (Eu.f rfl (Eu.t (kidsR (by simp)) (Eu.t rfl (Eu.t rfl (Eu.t e0e (Eu.t (by simp) (Eu.ret e0e))))))))
  | var d nm hn =>
    refine Eu.succ (fun n => S.tree_RightExpr.eq_2 ..) (Eu.bd (eu_allE (by simp) (fun e h => by simp at h)) (Eu.f rfl (Eu.t (kidsR (by simp)) (Eu.f rfl (Eu.t rfl (Eu.bd (eu_isName hn) (Eu.f rfl (Eu.t (by kernel_rfl) (Eu.t e0e (Eu.t rfl (Eu.ret (by simp))))))))))))
  | idx d nm k hn hk ih =>
    refine Eu.succ (fun n => S.tree_RightExpr.eq_2 ..) (Eu.bd (eu_allE (by simp) (fun e h => by simp at h; subst h; exact ih)) (Eu.f rfl (Eu.t (kidsR (by simp)) (Eu.f rfl (Eu.f rfl (Eu.t rfl (Eu.bd (eu_isName hn) (Eu.f rfl (Eu.t (by kernel_rfl) (Eu.t e0e (Eu.t rfl (Eu.ret (by simp)))))))))))))
  | un d op k ho hk ih =>
    obtain ⟨r, hr⟩ := eu_unary ho
    refine Eu.succ (fun n => S.tree_RightExpr.eq_2 ..) (Eu.bd (eu_allE (by simp) (fun e h => by simp at h; subst h; exact ih)) (Eu.f rfl (Eu.t (kidsR (by simp)) (Eu.f rfl (Eu.f rfl (Eu.f rfl (Eu.t rfl (Eu.bd hr (Eu.f rfl (Eu.t rfl (Eu.t (by simp) (Eu.t rfl (Eu.ret e0e)))))))))))))
  | bin d op a b ho ha hb iha ihb =>
    have hl := List.all_eq_true.1 lev_pos op ho
    have hl' : (lev op == 0) = false := by simpa using hl
    refine Eu.succ (fun n => S.tree_RightExpr.eq_2 ..) (Eu.bd (eu_allE (by simp) (fun e h => by
      simp only [List.mem_cons, List.not_mem_nil, or_false] at h
      rcases h with rfl | rfl
      · exact iha
      · exact ihb)) (Eu.f rfl (Eu.t (kidsR (by simp)) (Eu.f rfl (Eu.f rfl (Eu.f rfl (Eu.f rfl (Eu.t rfl (Eu.bd (eu_level op) (Eu.f hl' (Eu.t rfl (Eu.t (by simp) (Eu.t rfl (Eu.ret e0e))))))))))))))
end Go.Im

/- Plain laws: what is the same. -/
set_option maxRecDepth 10000
namespace Go.Im
open Classical in
theorem eu_equalE {a b : List TreeExpr} (hl : a.length ≤ LM) (hl' : b.length ≤ LM) (hp : ∀ x ∈ a, ∀ y ∈ b, Eu (fun n => S.tree_SameExpr n x y) (decide (x = y))) : Eu (fun n => S.slices_EqualFunc_TreeExpr_tree_SameExpr n a b) (decide (a = b)) :=
  eu_same (enc := TreeExpr.v) (F := S.slices_EqualFunc_TreeExpr_tree_SameExpr_l0) (p := S.tree_SameExpr) (by intros; first | (rw [S.slices_EqualFunc_TreeExpr_tree_SameExpr_l0]; done) | (rw [S.slices_EqualFunc_TreeExpr_tree_SameExpr_l0]; rfl)) (E := S.slices_EqualFunc_TreeExpr_tree_SameExpr) (by intros; first | (rw [S.slices_EqualFunc_TreeExpr_tree_SameExpr]; done) | (rw [S.slices_EqualFunc_TreeExpr_tree_SameExpr]; rfl)) a b hl hl' hp
open Classical in
theorem eu_sameE_of {a b : TreeExpr} (hl : a.Kids.length ≤ LM) (hl' : b.Kids.length ≤ LM) (hp : ∀ x ∈ a.Kids, ∀ y ∈ b.Kids, Eu (fun n => S.tree_SameExpr n x y) (decide (x = y))) : Eu (fun n => S.tree_SameExpr n a b) (decide (a = b)) := by
  obtain ⟨k, o, m, nm, ks⟩ := a
  obtain ⟨k', o', m', nm', ks'⟩ := b
  refine Eu.succ (fun n => S.tree_SameExpr.eq_2 ..) ?_
  simp only [beq_ba]
  by_cases h1 : k = k'
  · refine Eu.t (by simp [h1]) ?_
    by_cases h2 : o = o'
    · refine Eu.t (decide_eq_true h2) ?_
      by_cases h3 : m = m'
      · refine Eu.t (by simp [h3]) ?_
        by_cases h4 : nm = nm'
        · exact Eu.t (decide_eq_true h4) (Eu.bd (eu_equalE hl hl' hp) (Eu.ret (by simp [h1, h2, h3, h4])))
        · exact Eu.f (decide_eq_false h4) (Eu.ret (by simp [h4]))
      · exact Eu.f (by simp [h3]) (Eu.ret (by simp [h3]))
    · exact Eu.f (decide_eq_false h2) (Eu.ret (by simp [h2]))
  · exact Eu.f (by simp [h1]) (Eu.ret (by simp [h1]))
theorem WE.kids {d : Nat} {e : TreeExpr} (h : WE d e) : e.Kids.length ≤ 2 ∧ ∀ x ∈ e.Kids, ∃ d', WE d' x := by
  cases h with
  | num => exact ⟨by simp, fun x h => by simp at h⟩
  | var => exact ⟨by simp, fun x h => by simp at h⟩
  | idx d nm k h hk => exact ⟨by simp, fun x h => by simp at h; subst h; exact ⟨_, hk⟩⟩
  | un d op k h hk => exact ⟨by simp, fun x h => by simp at h; subst h; exact ⟨_, hk⟩⟩
  | bin d op a b h ha hb =>
    refine ⟨by simp, fun x h => ?_⟩
    simp only [List.mem_cons, List.not_mem_nil, or_false] at h
    rcases h with rfl | rfl
    · exact ⟨_, ha⟩
    · exact ⟨_, hb⟩
open Classical in
theorem eu_sameE {d : Nat} {a : TreeExpr} (h : WE d a) : ∀ {d' : Nat} {b : TreeExpr}, WE d' b → Eu (fun n => S.tree_SameExpr n a b) (decide (a = b)) := by
  have lm : ∀ {n : Nat}, n ≤ 2 → n ≤ LM := fun h => Nat.le_trans h (by decide)
  induction h with
  | num d n hn => exact fun hb => eu_sameE_of (lm (by simp)) (lm hb.kids.1) (fun x h => by simp at h)
  | var d nm hn => exact fun hb => eu_sameE_of (lm (by simp)) (lm hb.kids.1) (fun x h => by simp at h)
  | idx d nm k hn hk ih =>
    intro d' b hb
    refine eu_sameE_of (lm (by simp)) (lm hb.kids.1) (fun x hx y hy => ?_)
    simp at hx; subst hx
    obtain ⟨d2, h2⟩ := hb.kids.2 y hy
    exact ih h2
  | un d op k hn hk ih =>
    intro d' b hb
    refine eu_sameE_of (lm (by simp)) (lm hb.kids.1) (fun x hx y hy => ?_)
    simp at hx; subst hx
    obtain ⟨d2, h2⟩ := hb.kids.2 y hy
    exact ih h2
  | bin d op x1 x2 hn h1 h2 ih1 ih2 =>
    intro d' b hb
    refine eu_sameE_of (lm (by simp)) (lm hb.kids.1) (fun x hx y hy => ?_)
    obtain ⟨d2, hy2⟩ := hb.kids.2 y hy
    simp only [List.mem_cons, List.not_mem_nil, or_false] at hx
    rcases hx with rfl | rfl
    · exact ih1 hy2
    · exact ih2 hy2
open Classical in
theorem eu_sameL_of {a b : List TreeStmt} (hl : a.length ≤ LM) (hl' : b.length ≤ LM) (hp : ∀ x ∈ a, ∀ y ∈ b, Eu (fun n => S.tree_Stmt_same n x y) (decide (x = y))) : Eu (fun n => S.tree_SameStmts n a b) (decide (a = b)) :=
  Eu.succ (fun n => S.tree_SameStmts.eq_2 ..) (Eu.bd (eu_same (enc := TreeStmt.v) (F := S.slices_EqualFunc_TreeStmt_tree_Stmt_same_l0) (p := S.tree_Stmt_same) (by intros; first | (rw [S.slices_EqualFunc_TreeStmt_tree_Stmt_same_l0]; done) | (rw [S.slices_EqualFunc_TreeStmt_tree_Stmt_same_l0]; rfl)) (E := S.slices_EqualFunc_TreeStmt_tree_Stmt_same) (by intros; first | (rw [S.slices_EqualFunc_TreeStmt_tree_Stmt_same]; done) | (rw [S.slices_EqualFunc_TreeStmt_tree_Stmt_same]; rfl)) a b hl hl' hp) (Eu.ret rfl))
open Classical in
theorem eu_sameS_of {a b : TreeStmt} (he : Eu (fun n => S.slices_EqualFunc_TreeExpr_tree_SameExpr n a.E b.E) (decide (a.E = b.E))) (hb : Eu (fun n => S.tree_SameStmts n a.Body b.Body) (decide (a.Body = b.Body))) (hc : Eu (fun n => S.tree_SameStmts n a.Else b.Else) (decide (a.Else = b.Else))) :
    Eu (fun n => S.tree_Stmt_same n a b) (decide (a = b)) := by
  obtain ⟨k, t, nm, fn, es, bo, el⟩ := a
  obtain ⟨k', t', nm', fn', es', bo', el'⟩ := b
  refine Eu.succ (fun n => S.tree_Stmt_same.eq_2 ..) ?_
  simp only [beq_ba]
  by_cases h1 : k = k'
  · refine Eu.t (by simp [h1]) ?_
    by_cases h2 : t = t'
    · refine Eu.t (by simp [h2]) ?_
      by_cases h3 : nm = nm'
      · refine Eu.t (decide_eq_true h3) ?_
        by_cases h4 : fn = fn'
        · refine Eu.t (decide_eq_true h4) (Eu.bd he ?_)
          by_cases h5 : es = es'
          · refine Eu.t (decide_eq_true h5) (Eu.bd hb ?_)
            by_cases h6 : bo = bo'
            · exact Eu.t (decide_eq_true h6) (Eu.bd hc (Eu.ret (by simp [h1, h2, h3, h4, h5, h6])))
            · exact Eu.f (decide_eq_false h6) (Eu.ret (by simp [h6]))
          · exact Eu.f (decide_eq_false h5) (Eu.ret (by simp [h5]))
        · exact Eu.f (decide_eq_false h4) (Eu.ret (by simp [h4]))
      · exact Eu.f (decide_eq_false h3) (Eu.ret (by simp [h3]))
    · exact Eu.f (by simp [h2]) (Eu.ret (by simp [h2]))
  · exact Eu.f (by simp [h1]) (Eu.ret (by simp [h1]))
theorem WS.parts {d : Nat} {s : TreeStmt} (h : WS d s) : s.E.length ≤ 2 ∧ (∀ e ∈ s.E, WE 4 e) ∧ (s.Body.length ≤ 14 ∧ ∀ x ∈ s.Body, ∃ d', d = d' + 1 ∧ WS d' x) ∧ (s.Else.length ≤ 14 ∧ ∀ x ∈ s.Else, ∃ d', d = d' + 1 ∧ WS d' x) := by
  have nl : ∀ {d : Nat}, ([] : List TreeStmt).length ≤ 14 ∧ ∀ x ∈ ([] : List TreeStmt), ∃ d', d = d' + 1 ∧ WS d' x := ⟨by simp, fun x h => by simp at h⟩
  have one : ∀ {e : TreeExpr}, WE 4 e → ([e] : List TreeExpr).length ≤ 2 ∧ ∀ x ∈ [e], WE 4 x := fun h => ⟨by simp, fun x hx => by simp at hx; subst hx; exact h⟩
  cases h with
  | assign _ t nm e ht hn he => exact ⟨(one he).1, (one he).2, nl, nl⟩
  | store _ t nm i e ht hn hi he => exact ⟨by simp, fun x hx => by
      simp only [List.mem_cons, List.not_mem_nil, or_false] at hx
      rcases hx with rfl | rfl
      · exact hi
      · exact he, nl, nl⟩
  | read => exact ⟨by simp, fun x h => by simp at h, nl, nl⟩
  | call _ t nm fn l ht hn hf hl he => exact ⟨hl, he, nl, nl⟩
  | ifs _ t e b c ht he hb hc wb wc => exact ⟨(one he).1, (one he).2, ⟨hb, fun x hx => ⟨_, rfl, wb x hx⟩⟩, ⟨hc, fun x hx => ⟨_, rfl, wc x hx⟩⟩⟩
  | whil _ t e b ht he hb wb => exact ⟨(one he).1, (one he).2, ⟨hb, fun x hx => ⟨_, rfl, wb x hx⟩⟩, nl⟩
  | brk => exact ⟨by simp, fun x h => by simp at h, nl, nl⟩
  | cont => exact ⟨by simp, fun x h => by simp at h, nl, nl⟩
  | ret _ t e ht he => exact ⟨(one he).1, (one he).2, nl, nl⟩
  | asrt _ t e ht he => exact ⟨(one he).1, (one he).2, nl, nl⟩
open Classical in
theorem eu_sameS : ∀ (d d' : Nat) (a b : TreeStmt), WS d a → WS d' b → Eu (fun n => S.tree_Stmt_same n a b) (decide (a = b)) := by
  intro d
  induction d with
  | zero =>
    intro d' a b ha hb
    obtain ⟨a1, a2, a3, a4⟩ := ha.parts
    obtain ⟨b1, b2, b3, b4⟩ := hb.parts
    have lm : ∀ {n : Nat}, n ≤ 14 → n ≤ LM := fun h => Nat.le_trans h (by decide)
    refine eu_sameS_of (eu_equalE (lm (by omega)) (lm (by omega)) fun x hx y hy => eu_sameE (a2 x hx) (b2 y hy)) (eu_sameL_of (lm a3.1) (lm b3.1) fun x hx y hy => ?_) (eu_sameL_of (lm a4.1) (lm b4.1) fun x hx y hy => ?_)
    · obtain ⟨d2, h2, _⟩ := a3.2 x hx; omega
    · obtain ⟨d2, h2, _⟩ := a4.2 x hx; omega
  | succ d ih =>
    intro d' a b ha hb
    obtain ⟨a1, a2, a3, a4⟩ := ha.parts
    obtain ⟨b1, b2, b3, b4⟩ := hb.parts
    have lm : ∀ {n : Nat}, n ≤ 14 → n ≤ LM := fun h => Nat.le_trans h (by decide)
    refine eu_sameS_of (eu_equalE (lm (by omega)) (lm (by omega)) fun x hx y hy => eu_sameE (a2 x hx) (b2 y hy)) (eu_sameL_of (lm a3.1) (lm b3.1) fun x hx y hy => ?_) (eu_sameL_of (lm a4.1) (lm b4.1) fun x hx y hy => ?_)
    · obtain ⟨d2, h2, h3⟩ := a3.2 x hx
      obtain ⟨d3, _, h4⟩ := b3.2 y hy
      have : d2 = d := by omega
      subst this
      exact ih d3 x y h3 h4
    · obtain ⟨d2, h2, h3⟩ := a4.2 x hx
      obtain ⟨d3, _, h4⟩ := b4.2 y hy
      have : d2 = d := by omega
      subst this
      exact ih d3 x y h3 h4
open Classical in
theorem eu_sameL {d d' : Nat} {a b : List TreeStmt} (ha : ∀ s ∈ a, WS d s) (hb : ∀ s ∈ b, WS d' s) (hl : a.length ≤ 1000) (hl' : b.length ≤ 1000) : Eu (fun n => S.tree_SameStmts n a b) (decide (a = b)) :=
  eu_sameL_of (Nat.le_trans hl (by decide)) (Nat.le_trans hl' (by decide)) fun x hx y hy => eu_sameS d d' x y (ha x hx) (hb y hy)
end Go.Im

/- Plain laws: statements that are made are right. -/
set_option maxRecDepth 20000
namespace Go.Im
theorem eu_fitsN {nm : ByteArray} (h : nm ∈ NL) : Eu (fun n => S.tree_fits n nm true) true := Eu.eq (fun n => rfl) (Eu.t rfl (Eu.bd (eu_isName h) (Eu.t rfl (Eu.ret rfl))))
theorem eu_fits0 : Eu (fun n => S.tree_fits n e0 false) true := Eu.eq (fun n => rfl) (Eu.f rfl (Eu.t rfl (Eu.ret (by simp))))
theorem eu_rightL_of {l : List TreeStmt} (hl : l.length ≤ 1000) (h : ∀ s ∈ l, Eu (fun n => S.tree_Stmt_right n s) true) : Eu (fun n => S.tree_RightStmts n l) true :=
  Eu.succ (fun n => S.tree_RightStmts.eq_2 ..) (Eu.bd ((eu_all (q := fun _ => true) (enc := TreeStmt.v) (F := S.slices_IndexFunc_TreeStmt_tree_all_TreeStmt_k1_l0) (p := S.tree_all_TreeStmt_k1) (by intros; first | (rw [S.slices_IndexFunc_TreeStmt_tree_all_TreeStmt_k1_l0]; done) | (rw [S.slices_IndexFunc_TreeStmt_tree_all_TreeStmt_k1_l0]; rfl)) (Ix := S.slices_IndexFunc_TreeStmt_tree_all_TreeStmt_k1) (by intros; first | (rw [S.slices_IndexFunc_TreeStmt_tree_all_TreeStmt_k1]; done) | (rw [S.slices_IndexFunc_TreeStmt_tree_all_TreeStmt_k1]; rfl)) (Co := S.slices_ContainsFunc_TreeStmt_tree_all_TreeStmt_k1) (by intros; first | (rw [S.slices_ContainsFunc_TreeStmt_tree_all_TreeStmt_k1]; done) | (rw [S.slices_ContainsFunc_TreeStmt_tree_all_TreeStmt_k1]; rfl)) (Al := S.tree_all_TreeStmt_tree_Stmt_right) (by intros; first | (rw [S.tree_all_TreeStmt_tree_Stmt_right]; done) | (rw [S.tree_all_TreeStmt_tree_Stmt_right]; rfl)) l (Nat.le_trans hl (by decide))
    (fun x hx => Eu.succ (fun n => S.tree_all_TreeStmt_k1.eq_2 ..) (Eu.bd (h x hx) (Eu.ret rfl)))).cast (by simp)) (Eu.ret rfl))
theorem eu_rightS_of {d : Nat} {s : TreeStmt} (h : WS d s) (hB : Eu (fun n => S.tree_RightStmts n s.Body) true) (hC : Eu (fun n => S.tree_RightStmts n s.Else) true) : Eu (fun n => S.tree_Stmt_right n s) true := by
  have tg : ∀ {t : Int}, 0 ≤ t ∧ t ≤ 1000000 → decide (t ≥ 0) = true ∧ decide (t ≤ 1000000) = true := fun h => ⟨decide_eq_true h.1, decide_eq_true h.2⟩
  have al : ∀ {l : List TreeExpr}, l.length ≤ 2 → (∀ e ∈ l, WE 4 e) → Eu (fun n => S.tree_all_TreeExpr_tree_RightExpr n l) true := fun hl he => eu_allE (Nat.le_trans hl (by decide)) fun e h => eu_rightE (he e h)
  have nil0 : inK .i64 (((([] : List TreeStmt).map TreeStmt.v).length : Nat) : Int) = true := rfl
  obtain ⟨p1, p2, _, _⟩ := h.parts
  have hal := al p1 p2
  refine Eu.succ (fun n => S.tree_Stmt_right.eq_2 ..) ?_
  cases h with
  | assign _ t nm e ht hn he =>
    exact Eu.bd (a := ⟨true, false, false, false, 1⟩) (Eu.eq (fun n => rfl) (Eu.t rfl (Eu.ret rfl))) (Eu.t (tg ht).1 (Eu.t (tg ht).2 (Eu.t rfl (Eu.t rfl (Eu.bd hal (Eu.t rfl (Eu.bd (eu_fitsN hn) (Eu.t rfl (Eu.bd eu_fits0 (Eu.t rfl (Eu.f rfl (Eu.t nil0 (Eu.t rfl (Eu.f rfl (Eu.t nil0 (Eu.t rfl (Eu.bd hB (Eu.t rfl (Eu.bd hC (Eu.ret rfl))))))))))))))))))))
  | store _ t nm i e ht hn hi he =>
    exact Eu.bd (a := ⟨true, false, false, false, 2⟩) (Eu.eq (fun n => rfl) (Eu.f rfl (Eu.t rfl (Eu.ret rfl)))) (Eu.t (tg ht).1 (Eu.t (tg ht).2 (Eu.t (inK_map (show (2 : Nat) ≤ LM from by decide)) (Eu.t (by simp) (Eu.bd hal (Eu.t rfl (Eu.bd (eu_fitsN hn) (Eu.t rfl (Eu.bd eu_fits0 (Eu.t rfl (Eu.f rfl (Eu.t nil0 (Eu.t rfl (Eu.f rfl (Eu.t nil0 (Eu.t rfl (Eu.bd hB (Eu.t rfl (Eu.bd hC (Eu.ret rfl))))))))))))))))))))
  | read _ t nm ht hn =>
    exact Eu.bd (a := ⟨true, false, false, false, 0⟩) (Eu.eq (fun n => rfl) (Eu.f rfl (Eu.f rfl (Eu.t rfl (Eu.ret rfl))))) (Eu.t (tg ht).1 (Eu.t (tg ht).2 (Eu.t rfl (Eu.t rfl (Eu.bd hal (Eu.t rfl (Eu.bd (eu_fitsN hn) (Eu.t rfl (Eu.bd eu_fits0 (Eu.t rfl (Eu.f rfl (Eu.t nil0 (Eu.t rfl (Eu.f rfl (Eu.t nil0 (Eu.t rfl (Eu.bd hB (Eu.t rfl (Eu.bd hC (Eu.ret rfl))))))))))))))))))))
  | call _ t nm fn l ht hn hf hl he =>
    have hk : inK .i64 (((l.map TreeExpr.v).length : Nat) : Int) = true := inK_map (Nat.le_trans hl (by decide))
    exact Eu.bd (a := ⟨true, true, false, false, (((l.map TreeExpr.v).length : Nat) : Int)⟩) (Eu.eq (fun n => rfl) (Eu.f rfl (Eu.f rfl (Eu.f rfl (Eu.t rfl (Eu.t hk (Eu.ret rfl))))))) (Eu.t (tg ht).1 (Eu.t (tg ht).2 (Eu.t hk (Eu.t (by simp) (Eu.bd hal (Eu.t rfl (Eu.bd (eu_fitsN hn) (Eu.t rfl (Eu.bd (eu_fitsN hf) (Eu.t rfl (Eu.f rfl (Eu.t nil0 (Eu.t rfl (Eu.f rfl (Eu.t nil0 (Eu.t rfl (Eu.bd hB (Eu.t rfl (Eu.bd hC (Eu.ret rfl))))))))))))))))))))
  | ifs _ t e b c ht he hb hc wb wc =>
    exact Eu.bd (a := ⟨false, false, true, true, 1⟩) (Eu.eq (fun n => rfl) (Eu.f rfl (Eu.f rfl (Eu.f rfl (Eu.f rfl (Eu.t rfl (Eu.ret rfl))))))) (Eu.t (tg ht).1 (Eu.t (tg ht).2 (Eu.t rfl (Eu.t rfl (Eu.bd hal (Eu.t rfl (Eu.bd eu_fits0 (Eu.t rfl (Eu.bd eu_fits0 (Eu.t rfl (Eu.t rfl (Eu.t rfl (Eu.bd hB (Eu.t rfl (Eu.bd hC (Eu.ret rfl))))))))))))))))
  | whil _ t e b ht he hb wb =>
    exact Eu.bd (a := ⟨false, false, true, false, 1⟩) (Eu.eq (fun n => rfl) (Eu.f rfl (Eu.f rfl (Eu.f rfl (Eu.f rfl (Eu.f rfl (Eu.t rfl (Eu.ret rfl)))))))) (Eu.t (tg ht).1 (Eu.t (tg ht).2 (Eu.t rfl (Eu.t rfl (Eu.bd hal (Eu.t rfl (Eu.bd eu_fits0 (Eu.t rfl (Eu.bd eu_fits0 (Eu.t rfl (Eu.t rfl (Eu.f rfl (Eu.t nil0 (Eu.t rfl (Eu.bd hB (Eu.t rfl (Eu.bd hC (Eu.ret rfl))))))))))))))))))
  | brk _ t ht =>
    exact Eu.bd (a := ⟨false, false, false, false, 0⟩) (Eu.eq (fun n => rfl) (Eu.f rfl (Eu.f rfl (Eu.f rfl (Eu.f rfl (Eu.f rfl (Eu.f rfl (Eu.t rfl (Eu.ret rfl))))))))) (Eu.t (tg ht).1 (Eu.t (tg ht).2 (Eu.t rfl (Eu.t rfl (Eu.bd hal (Eu.t rfl (Eu.bd eu_fits0 (Eu.t rfl (Eu.bd eu_fits0 (Eu.t rfl (Eu.f rfl (Eu.t nil0 (Eu.t rfl (Eu.f rfl (Eu.t nil0 (Eu.t rfl (Eu.bd hB (Eu.t rfl (Eu.bd hC (Eu.ret rfl))))))))))))))))))))
  | cont _ t ht =>
    exact Eu.bd (a := ⟨false, false, false, false, 0⟩) (Eu.eq (fun n => rfl) (Eu.f rfl (Eu.f rfl (Eu.f rfl (Eu.f rfl (Eu.f rfl (Eu.f rfl (Eu.f rfl (Eu.t rfl (Eu.ret rfl)))))))))) (Eu.t (tg ht).1 (Eu.t (tg ht).2 (Eu.t rfl (Eu.t rfl (Eu.bd hal (Eu.t rfl (Eu.bd eu_fits0 (Eu.t rfl (Eu.bd eu_fits0 (Eu.t rfl (Eu.f rfl (Eu.t nil0 (Eu.t rfl (Eu.f rfl (Eu.t nil0 (Eu.t rfl (Eu.bd hB (Eu.t rfl (Eu.bd hC (Eu.ret rfl))))))))))))))))))))
  | ret _ t e ht he =>
    exact Eu.bd (a := ⟨false, false, false, false, 1⟩) (Eu.eq (fun n => rfl) (Eu.f rfl (Eu.f rfl (Eu.f rfl (Eu.f rfl (Eu.f rfl (Eu.f rfl (Eu.f rfl (Eu.f rfl (Eu.t rfl (Eu.ret rfl))))))))))) (Eu.t (tg ht).1 (Eu.t (tg ht).2 (Eu.t rfl (Eu.t rfl (Eu.bd hal (Eu.t rfl (Eu.bd eu_fits0 (Eu.t rfl (Eu.bd eu_fits0 (Eu.t rfl (Eu.f rfl (Eu.t nil0 (Eu.t rfl (Eu.f rfl (Eu.t nil0 (Eu.t rfl (Eu.bd hB (Eu.t rfl (Eu.bd hC (Eu.ret rfl))))))))))))))))))))
  | asrt _ t e ht he =>
    exact Eu.bd (a := ⟨false, false, false, false, 1⟩) (Eu.eq (fun n => rfl) (Eu.f rfl (Eu.f rfl (Eu.f rfl (Eu.f rfl (Eu.f rfl (Eu.f rfl (Eu.f rfl (Eu.f rfl (Eu.f rfl (Eu.t rfl (Eu.ret rfl)))))))))))) (Eu.t (tg ht).1 (Eu.t (tg ht).2 (Eu.t rfl (Eu.t rfl (Eu.bd hal (Eu.t rfl (Eu.bd eu_fits0 (Eu.t rfl (Eu.bd eu_fits0 (Eu.t rfl (Eu.f rfl (Eu.t nil0 (Eu.t rfl (Eu.f rfl (Eu.t nil0 (Eu.t rfl (Eu.bd hB (Eu.t rfl (Eu.bd hC (Eu.ret rfl))))))))))))))))))))
/-- Statements that are made are right. -/
theorem eu_rightL : ∀ (d : Nat) (l : List TreeStmt), l.length ≤ 1000 → (∀ s ∈ l, WS d s) → Eu (fun n => S.tree_RightStmts n l) true := by
  intro d
  induction d with
  | zero =>
    intro l hl hw
    refine eu_rightL_of hl fun s hs => ?_
    obtain ⟨_, _, h3, h4⟩ := (hw s hs).parts
    refine eu_rightS_of (hw s hs) (eu_rightL_of (by omega) fun x hx => ?_) (eu_rightL_of (by omega) fun x hx => ?_)
    · obtain ⟨d2, h2, _⟩ := h3.2 x hx; omega
    · obtain ⟨d2, h2, _⟩ := h4.2 x hx; omega
  | succ d ih =>
    intro l hl hw
    refine eu_rightL_of hl fun s hs => ?_
    obtain ⟨_, _, h3, h4⟩ := (hw s hs).parts
    refine eu_rightS_of (hw s hs) (ih _ (by omega) fun x hx => ?_) (ih _ (by omega) fun x hx => ?_)
    · obtain ⟨d2, h2, h5⟩ := h3.2 x hx
      have : d2 = d := by omega
      exact this ▸ h5
    · obtain ⟨d2, h2, h5⟩ := h4.2 x hx
      have : d2 = d := by omega
      exact this ▸ h5
end Go.Im
