/- Plain laws (PlB, PlL, PlP, PlW, PlT). -/
import Derived.Test.YtfkfbjhegiffhaaGreatDoorImGn
import Derived.Test.YtfkfbjhegiffhaaGreatDoorTrAT
import Derived.Test.YtfkfbjhegiffhaaGreatDoorTrA0
import Derived.Test.YtfkfbjhegiffhaaGreatDoorTrA0
/- Plain laws: what a function comes to, for all fuel that is enough. -/
set_option linter.unusedVariables false
namespace Go.Im
/-- For all fuel that is enough. -/
def Eu {α : Type} (F : Nat → Option α) (r : α) : Prop := ∃ N, ∀ n, N ≤ n → F n = some r
section
variable {α β : Type} {r : α}
theorem Eu.ret {a r : α} (h : a = r) : Eu (fun _ => some a) r := ⟨0, fun _ _ => by rw [h]⟩
theorem Eu.bd {F : Nat → Option α} {G : Nat → α → Option β} {a : α} {b : β} (h : Eu F a) (k : Eu (fun n => G n a) b) : Eu (fun n => (F n).bind (fun x => G n x)) b := by
  obtain ⟨N, h⟩ := h
  obtain ⟨M, k⟩ := k
  exact ⟨max N M, fun n hn => by show (F n).bind _ = _; rw [h n (by omega)]; exact k n (by omega)⟩
theorem Eu.bs {o : Option α} {G : Nat → α → Option β} {a : α} {b : β} (h : o = some a) (k : Eu (fun n => G n a) b) : Eu (fun n => o.bind (fun x => G n x)) b := by
  rw [h]; exact k
theorem Eu.t {c : Bool} {A B : Nat → Option α} (h : c = true) (k : Eu A r) : Eu (fun n => bif c then A n else B n) r := by subst h; exact k
theorem Eu.f {c : Bool} {A B : Nat → Option α} (h : c = false) (k : Eu B r) : Eu (fun n => bif c then A n else B n) r := by subst h; exact k
theorem Eu.c {c : Bool} {A B : Nat → Option α} (h1 : c = true → Eu A r) (h2 : c = false → Eu B r) : Eu (fun n => bif c then A n else B n) r := by
  cases c with
  | true => exact h1 rfl
  | false => exact h2 rfl
theorem Eu.succ {F G : Nat → Option α} (e : ∀ n, F (n + 1) = G n) (k : Eu G r) : Eu F r := by
  obtain ⟨N, k⟩ := k
  refine ⟨N + 1, fun n hn => ?_⟩
  obtain ⟨m, rfl⟩ : ∃ m, n = m + 1 := ⟨n - 1, by omega⟩
  rw [e]; exact k m (by omega)
theorem Eu.eq {F G : Nat → Option α} (e : ∀ n, F n = G n) (k : Eu G r) : Eu F r := by
  obtain ⟨N, k⟩ := k
  exact ⟨N, fun n hn => by rw [e]; exact k n hn⟩
theorem Eu.cast {F : Nat → Option α} {a r : α} (h : Eu F a) (e : a = r) : Eu F r := e ▸ h
theorem Eu.get {F : Nat → Option α} (h : Eu F r) : ∃ n, F n = some r := by
  obtain ⟨N, h⟩ := h
  exact ⟨N, h N (Nat.le_refl _)⟩
end
/-- Numbers that are not too great. -/
abbrev LM : Nat := 4611686018427387904
theorem inK_nat {n : Nat} (h : n ≤ LM) : inK .i64 (n : Int) = true := by
  have h' : n ≤ 4611686018427387904 := h
  show (decide ((-9223372036854775808 : Int) ≤ (n : Int)) && decide ((n : Int) ≤ (9223372036854775807 : Int))) = true
  rw [decide_eq_true (by omega), decide_eq_true (by omega)]; rfl
theorem inK_map {α : Type} {f : α → V} {l : List α} (h : l.length ≤ LM) : inK .i64 (((l.map f).length : Nat) : Int) = true := by
  rw [List.length_map]; exact inK_nat h
theorem wrap_id {n : Int} (h1 : -9223372036854775808 ≤ n) (h2 : n ≤ 9223372036854775807) : IntKind.wrap .i64 n = n := by
  by_cases hc : n % 18446744073709551616 ≥ 9223372036854775808
  · have : IntKind.wrap .i64 n = n % 18446744073709551616 - 18446744073709551616 := if_pos (by
      show (true && decide (n % 18446744073709551616 ≥ 9223372036854775808)) = true
      rw [decide_eq_true hc]; rfl)
    rw [this]; omega
  · have : IntKind.wrap .i64 n = n % 18446744073709551616 := if_neg (by
      show ¬ (true && decide (n % 18446744073709551616 ≥ 9223372036854775808)) = true
      rw [decide_eq_false hc]; exact Bool.false_ne_true)
    rw [this]; omega
theorem inR {i n : Nat} (h : i < n) : inRange (i : Int) n = true := by
  simp only [inRange, Bool.and_eq_true, decide_eq_true_eq]; omega
theorem inRm {α : Type} {f : α → V} {l : List α} {i : Nat} (h : i < l.length) : inRange (i : Int) (l.map f).length = true := by
  rw [List.length_map]; exact inR h
end Go.Im

/- Plain laws: loops of the library over lists. -/
namespace Go.Im
theorem nat_get {α : Type} {l : List α} {i : Nat} (h : i < l.length) : l[Int.toNat (i : Int)]? = some l[i] := by
  rw [show Int.toNat (i : Int) = i by omega, List.getElem?_eq_getElem h]
theorem wrap_s {i : Nat} (h : i < LM) : IntKind.wrap .i64 ((i : Int) + 1) = ((i + 1 : Nat) : Int) := by
  have h' : i < 4611686018427387904 := h
  rw [wrap_id (by omega) (by omega)]; omega
/-- The first one that is so. -/
theorem eu_index {α : Type} {F : Nat → List α → Int → Int → Option (Int ⊕ Unit)} {enc : α → V} {p : Nat → α → Option Bool} {q : α → Bool}
    (hF : ∀ n s len i, F (n + 1) s len i = (bif decide (i < len) then (bif inRange i (List.length (List.map enc s)) then ((s[Int.toNat i]?).bind fun x2 => ((p n x2).bind fun x3 => (bif x3 then (some (Sum.inl i)) else (F n s len (IntKind.wrap IntKind.i64 (i + 1)))))) else none) else (some (Sum.inr ()))))
    (l : List α) (hl : l.length ≤ LM) (hp : ∀ x ∈ l, Eu (fun n => p n x) (q x)) :
    ∃ r, Eu (fun n => F n l ((l.length : Nat) : Int) 0) r ∧ (l.any q = true → ∃ k : Nat, r = Sum.inl (k : Int)) ∧ (l.any q = false → r = Sum.inr ()) := by
  have main : ∀ (k i : Nat), i + k = l.length → ∃ r, Eu (fun n => F n l ((l.length : Nat) : Int) (i : Int)) r ∧ ((l.drop i).any q = true → ∃ k : Nat, r = Sum.inl (k : Int)) ∧ ((l.drop i).any q = false → r = Sum.inr ()) := by
    intro k
    induction k with
    | zero =>
      intro i hi
      refine ⟨Sum.inr (), Eu.succ (fun n => hF n _ _ _) (Eu.f (decide_eq_false (by omega)) (Eu.ret rfl)), fun h => ?_, fun _ => rfl⟩
      rw [List.drop_eq_nil_of_le (by omega)] at h; simp at h
    | succ k ih =>
      intro i hi
      have hlt : i < l.length := by omega
      obtain ⟨r, h1, h2, h3⟩ := ih (i + 1) (by omega)
      rw [List.drop_eq_getElem_cons hlt]
      simp only [List.any_cons]
      cases hq : q l[i] with
      | true =>
        refine ⟨Sum.inl (i : Int), Eu.succ (fun n => hF n _ _ _) (Eu.t (decide_eq_true (by omega)) (Eu.t (inRm hlt) (Eu.bs (nat_get hlt) (Eu.bd (hp _ (List.getElem_mem hlt)) (Eu.t hq (Eu.ret rfl)))))), fun _ => ⟨i, rfl⟩, fun h => by simp at h⟩
      | false =>
        refine ⟨r, Eu.succ (fun n => hF n _ _ _) (Eu.t (decide_eq_true (by omega)) (Eu.t (inRm hlt) (Eu.bs (nat_get hlt) (Eu.bd (hp _ (List.getElem_mem hlt)) (Eu.f hq ?_))))), by simpa using h2, by simpa using h3⟩
        rw [wrap_s (by omega)]
        exact h1
  have := main l.length 0 (by omega)
  simpa using this
/-- Is each one so? -/
theorem eu_all {α : Type} {F : Nat → List α → Int → Int → Option (Int ⊕ Unit)} {enc : α → V} {p : Nat → α → Option Bool} {q : α → Bool}
    (hF : ∀ n s len i, F (n + 1) s len i = (bif decide (i < len) then (bif inRange i (List.length (List.map enc s)) then ((s[Int.toNat i]?).bind fun x2 => ((p n x2).bind fun x3 => (bif x3 then (some (Sum.inl i)) else (F n s len (IntKind.wrap IntKind.i64 (i + 1)))))) else none) else (some (Sum.inr ()))))
    {Ix : Nat → List α → Option Int} (hI : ∀ n a0, Ix (n + 1) a0 = (bif inK IntKind.i64 (↑(List.length (List.map enc a0)) : Int) then ((F n (a0) ((↑(List.length (List.map enc a0)) : Int)) (0)).bind fun x1 => match x1 with | (Sum.inl x1) => (some (x1)) | (Sum.inr x1) => (some (-1))) else none))
    {Co : Nat → List α → Option Bool} (hC : ∀ n a0, Co (n + 1) a0 = ((Ix n (a0)).bind fun x0 => (some (decide (x0 ≥ 0)))))
    {Al : Nat → List α → Option Bool} (hA : ∀ n a0, Al (n + 1) a0 = ((Co n (a0)).bind fun x0 => (some (!x0))))
    (l : List α) (hl : l.length ≤ LM) (hp : ∀ x ∈ l, Eu (fun n => p n x) (!q x)) : Eu (fun n => Al n l) (l.all q) := by
  obtain ⟨r, h1, h2, h3⟩ := eu_index hF l hl hp
  have hany : l.any (fun x => !q x) = !l.all q := by simp [List.all_eq_not_any_not]
  cases hq : l.all q with
  | true =>
    obtain rfl := h3 (by rw [hany, hq]; rfl)
    exact Eu.succ (fun n => hA n _) (Eu.bd (a := false) (Eu.succ (fun n => hC n _) (Eu.bd (a := -1) (Eu.succ (fun n => hI n _) (Eu.t (inK_map hl) (Eu.bd (a := Sum.inr ()) (by simpa only [List.length_map] using h1) (Eu.ret rfl)))) (Eu.ret (by decide)))) (Eu.ret rfl))
  | false =>
    obtain ⟨k, rfl⟩ := h2 (by rw [hany, hq]; rfl)
    exact Eu.succ (fun n => hA n _) (Eu.bd (a := true) (Eu.succ (fun n => hC n _) (Eu.bd (a := (k : Int)) (Eu.succ (fun n => hI n _) (Eu.t (inK_map hl) (Eu.bd (a := Sum.inl (k : Int)) (by simpa only [List.length_map] using h1) (Eu.ret rfl)))) (Eu.ret (by simp)))) (Eu.ret rfl))
/-- Two lists, one by one. -/
theorem eu_equal {α : Type} {F : Nat → List α → List α → Int → Int → Option (Bool ⊕ Unit)} {enc : α → V} {p : Nat → α → α → Option Bool} {q : α → α → Bool}
    (hF : ∀ n s1 s15 s16 s17, F (n + 1) s1 s15 s16 s17 = (bif decide (s17 < s16) then (bif inRange s17 (List.length (List.map enc s15)) then ((s15[Int.toNat s17]?).bind fun x2 => (bif inRange s17 (List.length (List.map enc s1)) then ((s1[Int.toNat s17]?).bind fun x4 => ((p n x2 x4).bind fun x5 => (bif !x5 then (some (Sum.inl (false))) else (F n (s1) (s15) (s16) (IntKind.wrap IntKind.i64 (s17 + 1)))))) else none)) else none) else (some (Sum.inr ()))))
    (a b : List α) (hl : a.length ≤ LM) (hab : a.length = b.length) (hp : ∀ x ∈ a, ∀ y ∈ b, Eu (fun n => p n x y) (q x y)) :
    ∃ r, Eu (fun n => F n b a ((a.length : Nat) : Int) 0) r ∧ ((∀ (i : Nat) (x y : α), a[i]? = some x → b[i]? = some y → q x y = true) → r = Sum.inr ()) ∧ ((∃ (i : Nat) (x y : α), a[i]? = some x ∧ b[i]? = some y ∧ q x y = false) → r = Sum.inl false) := by
  have main : ∀ (k i : Nat), i + k = a.length → ∃ r, Eu (fun n => F n b a ((a.length : Nat) : Int) (i : Int)) r ∧ ((∀ (j : Nat) (x y : α), i ≤ j → a[j]? = some x → b[j]? = some y → q x y = true) → r = Sum.inr ()) ∧ ((∃ (j : Nat) (x y : α), i ≤ j ∧ a[j]? = some x ∧ b[j]? = some y ∧ q x y = false) → r = Sum.inl false) := by
    intro k
    induction k with
    | zero =>
      intro i hi
      refine ⟨Sum.inr (), Eu.succ (fun n => hF n _ _ _ _) (Eu.f (decide_eq_false (by omega)) (Eu.ret rfl)), fun _ => rfl, fun ⟨j, x, y, hj, hx, _⟩ => ?_⟩
      have := (List.getElem?_eq_some_iff.1 hx).1; omega
    | succ k ih =>
      intro i hi
      have hlt : i < a.length := by omega
      have hlt' : i < b.length := by omega
      obtain ⟨r, h1, h2, h3⟩ := ih (i + 1) (by omega)
      have step : ∀ {R}, Eu (fun n => bif !(q a[i] b[i]) then (some (Sum.inl (false))) else (F n b a ((a.length : Nat) : Int) (IntKind.wrap IntKind.i64 ((i : Int) + 1)))) R → Eu (fun n => F n b a ((a.length : Nat) : Int) (i : Int)) R := fun h =>
        Eu.succ (fun n => hF n _ _ _ _) (Eu.t (decide_eq_true (by omega)) (Eu.t (inRm hlt) (Eu.bs (nat_get hlt) (Eu.t (inRm hlt') (Eu.bs (nat_get hlt') (Eu.bd (hp _ (List.getElem_mem hlt) _ (List.getElem_mem hlt')) h))))))
      cases hq : q a[i] b[i] with
      | false =>
        refine ⟨Sum.inl false, step (Eu.t (by rw [hq]; rfl) (Eu.ret rfl)), fun h => ?_, fun _ => rfl⟩
        have := h i _ _ (Nat.le_refl _) (List.getElem?_eq_getElem hlt) (List.getElem?_eq_getElem hlt')
        rw [hq] at this; cases this
      | true =>
        refine ⟨r, step (Eu.f (by rw [hq]; rfl) ?_), fun h => h2 fun j x y hj hx hy => h j x y (by omega) hx hy, fun ⟨j, x, y, hj, hx, hy, hf⟩ => h3 ⟨j, x, y, ?_, hx, hy, hf⟩⟩
        · rw [wrap_s (by omega)]; exact h1
        · rcases Nat.lt_or_ge i j with h | h
          · exact h
          · have : j = i := by omega
            subst this
            rw [List.getElem?_eq_getElem hlt] at hx
            rw [List.getElem?_eq_getElem hlt'] at hy
            cases hx; cases hy; rw [hq] at hf; cases hf
  obtain ⟨r, h1, h2, h3⟩ := main a.length 0 (by omega)
  exact ⟨r, h1, fun h => h2 fun j x y _ hx hy => h j x y hx hy, fun ⟨j, x, y, hx, hy, hf⟩ => h3 ⟨j, x, y, Nat.zero_le _, hx, hy, hf⟩⟩
open Classical in
/-- Are two lists the same? -/
theorem eu_same {α : Type} {F : Nat → List α → List α → Int → Int → Option (Bool ⊕ Unit)} {enc : α → V} {p : Nat → α → α → Option Bool}
    (hF : ∀ n s1 s15 s16 s17, F (n + 1) s1 s15 s16 s17 = (bif decide (s17 < s16) then (bif inRange s17 (List.length (List.map enc s15)) then ((s15[Int.toNat s17]?).bind fun x2 => (bif inRange s17 (List.length (List.map enc s1)) then ((s1[Int.toNat s17]?).bind fun x4 => ((p n x2 x4).bind fun x5 => (bif !x5 then (some (Sum.inl (false))) else (F n (s1) (s15) (s16) (IntKind.wrap IntKind.i64 (s17 + 1)))))) else none)) else none) else (some (Sum.inr ()))))
    {E : Nat → List α → List α → Option Bool} (hE : ∀ n a0 a1, E (n + 1) a0 a1 = (bif inK IntKind.i64 (↑(List.length (List.map enc a0)) : Int) then (bif inK IntKind.i64 (↑(List.length (List.map enc a1)) : Int) then (bif (↑(List.length (List.map enc a0)) : Int) != (↑(List.length (List.map enc a1)) : Int) then (some (false)) else ((F n (a1) (a0) ((↑(List.length (List.map enc a0)) : Int)) (0)).bind fun x4 => match x4 with | (Sum.inl x4) => (some (x4)) | (Sum.inr x4) => (some (true)))) else none) else none))
    (a b : List α) (hl : a.length ≤ LM) (hl' : b.length ≤ LM) (hp : ∀ x ∈ a, ∀ y ∈ b, Eu (fun n => p n x y) (decide (x = y))) : Eu (fun n => E n a b) (decide (a = b)) := by
  refine Eu.succ (fun n => hE n _ _) (Eu.t (inK_map hl) (Eu.t (inK_map hl') ?_))
  simp only [List.length_map]
  by_cases hab : a.length = b.length
  · obtain ⟨r, h1, h2, h3⟩ := eu_equal (q := fun x y => decide (x = y)) hF a b hl hab hp
    refine Eu.f (by simp [hab]) (Eu.bd h1 ?_)
    by_cases he : a = b
    · subst he
      rw [h2 fun i x y hx hy => by rw [hx] at hy; cases hy; simp]
      exact Eu.ret (by simp)
    · rw [h3 (Classical.byContradiction fun hn => he (List.ext_getElem? fun i => ?_))]
      · exact Eu.ret (by simp [he])
      · rcases Nat.lt_or_ge i a.length with hi | hi
        · have hi' : i < b.length := by omega
          rw [List.getElem?_eq_getElem hi, List.getElem?_eq_getElem hi']
          refine congrArg some (Classical.byContradiction fun hne => hn ⟨i, _, _, List.getElem?_eq_getElem hi, List.getElem?_eq_getElem hi', by simp [hne]⟩)
        · rw [List.getElem?_eq_none hi, List.getElem?_eq_none (by omega)]
  · refine Eu.t (by simp; omega) (Eu.ret ?_)
    have : a ≠ b := fun h => hab (by rw [h])
    simp [this]
end Go.Im

/- Plain laws: what a function comes to is so. -/
namespace Go.Im
/-- For all fuel that is enough it comes to one thing, and that is so. -/
def EuP {α : Type} (F : Nat → Option α) (P : α → Prop) : Prop := ∃ r, Eu F r ∧ P r
section
variable {α β : Type} {P : α → Prop} {Q : β → Prop}
theorem EuP.ret {a : α} (h : P a) : EuP (fun _ => some a) P := ⟨a, Eu.ret rfl, h⟩
theorem EuP.of {F : Nat → Option α} {r : α} (h : Eu F r) (p : P r) : EuP F P := ⟨r, h, p⟩
theorem EuP.bd {F : Nat → Option α} {G : Nat → α → Option β} (h : EuP F P) (k : ∀ a, P a → EuP (fun n => G n a) Q) : EuP (fun n => (F n).bind (fun x => G n x)) Q := by
  obtain ⟨a, ha, pa⟩ := h
  obtain ⟨b, hb, qb⟩ := k a pa
  exact ⟨b, Eu.bd ha hb, qb⟩
theorem EuP.bs {o : Option α} {G : Nat → α → Option β} {a : α} (h : o = some a) (k : EuP (fun n => G n a) Q) : EuP (fun n => o.bind (fun x => G n x)) Q := by
  rw [h]; exact k
theorem EuP.t {c : Bool} {A B : Nat → Option α} (h : c = true) (k : EuP A P) : EuP (fun n => bif c then A n else B n) P := by subst h; exact k
theorem EuP.f {c : Bool} {A B : Nat → Option α} (h : c = false) (k : EuP B P) : EuP (fun n => bif c then A n else B n) P := by subst h; exact k
theorem EuP.c {c : Bool} {A B : Nat → Option α} (h1 : c = true → EuP A P) (h2 : c = false → EuP B P) : EuP (fun n => bif c then A n else B n) P := by
  cases c with
  | true => exact h1 rfl
  | false => exact h2 rfl
theorem EuP.succ {F G : Nat → Option α} (e : ∀ n, F (n + 1) = G n) (k : EuP G P) : EuP F P := by
  obtain ⟨r, h, p⟩ := k
  exact ⟨r, Eu.succ e h, p⟩
theorem EuP.eq {F G : Nat → Option α} (e : ∀ n, F n = G n) (k : EuP G P) : EuP F P := by
  obtain ⟨r, h, p⟩ := k
  exact ⟨r, Eu.eq e h, p⟩
theorem EuP.mono {F : Nat → Option α} {P' : α → Prop} (h : EuP F P) (k : ∀ a, P a → P' a) : EuP F P' := by
  obtain ⟨r, h, p⟩ := h
  exact ⟨r, h, k r p⟩
theorem EuP.el {l : List α} {i : Nat} {G : Nat → α → Option β} (h : i < l.length) (k : ∀ a ∈ l, EuP (fun n => G n a) Q) : EuP (fun n => (l[i]?).bind (fun x => G n x)) Q :=
  EuP.bs (List.getElem?_eq_getElem h) (k _ (List.getElem_mem h))
end
theorem tmodN (a b : Nat) : Int.tmod (a : Int) (b : Int) = ((a % b : Nat) : Int) := by
  rw [Int.tmod_eq_emod_of_nonneg (by omega)]; omega
theorem tdivN (a b : Nat) : Int.tdiv (a : Int) (b : Int) = ((a / b : Nat) : Int) := by
  rw [Int.tdiv_eq_ediv_of_nonneg (by omega)]; omega
theorem wrapNat {n : Nat} (h : n ≤ 9000000000000000000) : IntKind.wrap .i64 (n : Int) = (n : Int) := wrap_id (by omega) (by omega)
end Go.Im

/- Plain laws: programs that are made of bytes: what they are. -/
namespace Go.Im
abbrev e0 : ByteArray := { data := #[] }
/-- The names that there are. -/
def NL : List ByteArray := [{ data := #[97] }, { data := #[98] }, { data := #[99] }, { data := #[100] }, { data := #[112] }, { data := #[113] }, { data := #[114] }, { data := #[103] }, { data := #[104] }, { data := #[120, 115] }, { data := #[121, 115] }, { data := #[122, 115] }, { data := #[109, 97, 105, 110] }]
def UL : List ByteArray := [{ data := #[45] }, { data := #[126] }, { data := #[33] }]
def BOL : List ByteArray := [{ data := #[124, 124] }, { data := #[38, 38] }, { data := #[124] }, { data := #[94] }, { data := #[38] }, { data := #[61, 61] }, { data := #[33, 61] }, { data := #[60] }, { data := #[60, 61] }, { data := #[62] }, { data := #[62, 61] }, { data := #[60, 60] }, { data := #[62, 62] }, { data := #[43] }, { data := #[45] }, { data := #[42] }, { data := #[47] }, { data := #[37] }]
def NUML : List Int := [0, 1, 2, 3, -1, 5, 7, -9223372036854775808, 64, 9223372036854775807]
/-- An expression that is made, at most so deep. -/
inductive WE : Nat → TreeExpr → Prop
  | num (d : Nat) (n : Int) (hn : n ∈ NUML) : WE d ⟨0, e0, n, e0, []⟩
  | var (d : Nat) (nm : ByteArray) (h : nm ∈ NL) : WE d ⟨1, e0, 0, nm, []⟩
  | idx (d : Nat) (nm : ByteArray) (k : TreeExpr) (h : nm ∈ NL) (hk : WE d k) : WE (d + 1) ⟨2, e0, 0, nm, [k]⟩
  | un (d : Nat) (op : ByteArray) (k : TreeExpr) (h : op ∈ UL) (hk : WE d k) : WE (d + 1) ⟨3, op, 0, e0, [k]⟩
  | bin (d : Nat) (op : ByteArray) (a b : TreeExpr) (h : op ∈ BOL) (ha : WE d a) (hb : WE d b) : WE (d + 1) ⟨4, op, 0, e0, [a, b]⟩
theorem WE.mono {d : Nat} {e : TreeExpr} (h : WE d e) : ∀ {d'}, d ≤ d' → WE d' e := by
  induction h with
  | num d n hn => exact fun _ => .num _ n hn
  | var d nm h => exact fun _ => .var _ nm h
  | idx d nm k h hk ih => intro d' hd; obtain ⟨m, rfl⟩ : ∃ m, d' = m + 1 := ⟨d' - 1, by omega⟩; exact .idx m nm k h (ih (by omega))
  | un d op k h hk ih => intro d' hd; obtain ⟨m, rfl⟩ : ∃ m, d' = m + 1 := ⟨d' - 1, by omega⟩; exact .un m op k h (ih (by omega))
  | bin d op a b h ha hb iha ihb => intro d' hd; obtain ⟨m, rfl⟩ : ∃ m, d' = m + 1 := ⟨d' - 1, by omega⟩; exact .bin m op a b h (iha (by omega)) (ihb (by omega))
/-- A statement that is made: blocks at most so deep; no list longer than 14. -/
inductive WS : Nat → TreeStmt → Prop
  | assign (d : Nat) (t : Int) (nm : ByteArray) (e : TreeExpr) (ht : 0 ≤ t ∧ t ≤ 1000000) (hn : nm ∈ NL) (he : WE 4 e) : WS d ⟨0, t, nm, e0, [e], [], []⟩
  | store (d : Nat) (t : Int) (nm : ByteArray) (i e : TreeExpr) (ht : 0 ≤ t ∧ t ≤ 1000000) (hn : nm ∈ NL) (hi : WE 4 i) (he : WE 4 e) : WS d ⟨1, t, nm, e0, [i, e], [], []⟩
  | read (d : Nat) (t : Int) (nm : ByteArray) (ht : 0 ≤ t ∧ t ≤ 1000000) (hn : nm ∈ NL) : WS d ⟨2, t, nm, e0, [], [], []⟩
  | call (d : Nat) (t : Int) (nm fn : ByteArray) (l : List TreeExpr) (ht : 0 ≤ t ∧ t ≤ 1000000) (hn : nm ∈ NL) (hf : fn ∈ NL) (hl : l.length ≤ 2) (he : ∀ e ∈ l, WE 4 e) : WS d ⟨3, t, nm, fn, l, [], []⟩
  | ifs (d : Nat) (t : Int) (e : TreeExpr) (b c : List TreeStmt) (ht : 0 ≤ t ∧ t ≤ 1000000) (he : WE 4 e) (hb : b.length ≤ 14) (hc : c.length ≤ 14) (wb : ∀ s ∈ b, WS d s) (wc : ∀ s ∈ c, WS d s) : WS (d + 1) ⟨4, t, e0, e0, [e], b, c⟩
  | whil (d : Nat) (t : Int) (e : TreeExpr) (b : List TreeStmt) (ht : 0 ≤ t ∧ t ≤ 1000000) (he : WE 4 e) (hb : b.length ≤ 14) (wb : ∀ s ∈ b, WS d s) : WS (d + 1) ⟨5, t, e0, e0, [e], b, []⟩
  | brk (d : Nat) (t : Int) (ht : 0 ≤ t ∧ t ≤ 1000000) : WS d ⟨6, t, e0, e0, [], [], []⟩
  | cont (d : Nat) (t : Int) (ht : 0 ≤ t ∧ t ≤ 1000000) : WS d ⟨7, t, e0, e0, [], [], []⟩
  | ret (d : Nat) (t : Int) (e : TreeExpr) (ht : 0 ≤ t ∧ t ≤ 1000000) (he : WE 4 e) : WS d ⟨8, t, e0, e0, [e], [], []⟩
  | asrt (d : Nat) (t : Int) (e : TreeExpr) (ht : 0 ≤ t ∧ t ≤ 1000000) (he : WE 4 e) : WS d ⟨9, t, e0, e0, [e], [], []⟩
def WL (d : Nat) (l : List TreeStmt) : Prop := l.length ≤ 14 ∧ ∀ s ∈ l, WS d s
/-- A function that is made. -/
structure WF (f : TreeFunc) : Prop where
  name : f.Name ∈ NL
  plen : f.Params.length ≤ 2
  params : ∀ p ∈ f.Params, p ∈ NL
  vlen : f.Vars.length ≤ 6
  vars : ∀ v ∈ f.Vars, v.Name ∈ NL ∧ 0 ≤ v.Size ∧ v.Size ≤ 100
  body : WL 3 f.Body
structure WP (p : TreeProg) : Prop where
  len : p.Funcs.length = 3
  fs : ∀ f ∈ p.Funcs, WF f
end Go.Im

/- Plain laws: expressions as texts. -/
set_option linter.unusedSimpArgs false
namespace Go.Im
theorem bl_bs (l : List UInt8) : (bs l).data.toList = l := by simp [bs]
theorem tl_bs (l : List UInt8) : (bs l).toList = l := by rw [ByteArray.toList_eq, bl_bs]
theorem size_bs (l : List UInt8) : (bs l).size = l.length := by simp [bs, ByteArray.size]
theorem size_lit (l : Array UInt8) : ByteArray.size ⟨l⟩ = l.size := rfl
theorem bl_app (a b : ByteArray) : (a ++ b).data.toList = a.data.toList ++ b.data.toList := by rw [ByteArray.data_append, Array.toList_append]
theorem ba_ext {a b : ByteArray} (h : a.data.toList = b.data.toList) : a = b := by
  cases a; cases b
  exact congrArg ByteArray.mk (Array.toList_inj.1 h)
theorem beq_ba {a b : ByteArray} : (ByteArray.toList a == ByteArray.toList b) = decide (a = b) := by
  rw [ByteArray.toList_eq, ByteArray.toList_eq]
  by_cases h : a = b
  · subst h; simp
  · have : ¬ a.data.toList = b.data.toList := fun e => h (ba_ext e)
    rw [decide_eq_false h]; exact beq_false_of_ne this
theorem le63 {n : Nat} (h : n ≤ 1000000000000) : decide ((n : Int) ≤ 9223372036854775807) = true := decide_eq_true (by omega)
/-- How tightly an operation binds. -/
def lev (o : ByteArray) : Int := ((S.word_find 0 o).getD (e0, 0, false)).2.1
theorem bif_ex {α : Type} {c : Bool} {A B : Option α} (h1 : ∃ r, A = some r) (h2 : ∃ r, B = some r) : ∃ r, (bif c then A else B) = some r := by
  cases c with
  | true => exact h1
  | false => exact h2
theorem find_ex (o : ByteArray) : ∃ r, S.word_find 0 o = some r := by
  unfold S.word_find
  repeat' first | exact ⟨_, rfl⟩ | refine bif_ex ?_ ?_
theorem eu_level (o : ByteArray) : Eu (fun n => S.word_Level n o) (lev o) := by
  obtain ⟨r, hr⟩ := find_ex o
  refine Eu.eq (fun n => rfl) (Eu.bd (a := r) (Eu.eq (fun n => show S.word_find n o = some r from hr) (Eu.ret rfl)) (Eu.ret ?_))
  unfold lev
  rw [hr]; rfl
def levE (e : TreeExpr) : Int := if e.Kind = 4 then lev e.Op else 11
theorem eu_lev (e : TreeExpr) : Eu (fun n => S.tree_Expr_level n e) (levE e) := by
  refine Eu.eq (fun n => rfl) ?_
  unfold levE
  by_cases h : e.Kind = 4
  · exact Eu.t (by simp [h]) (Eu.bd (eu_level _) (Eu.ret (by rw [if_pos h])))
  · exact Eu.f (by simp [h]) (Eu.ret (by rw [if_neg h]))
abbrev bl (b : ByteArray) : List UInt8 := b.data.toList
def par (c : Bool) (t : List UInt8) : List UInt8 := bif c then 40 :: (t ++ [41]) else t
def pick (k : Int) (o : ByteArray) (n : Int) (nm : ByteArray) (ks : List TreeExpr) (ts : List (List UInt8)) : List UInt8 :=
  if k = 0 then bl (E.FormatInt n) else
  match ks, ts with
  | [a], [t] => if k = 2 then bl nm ++ 91 :: (t ++ [93]) else if k = 3 then (if o = ⟨#[45]⟩ ∧ a.Kind = 0 ∧ a.N = 0 then [45, 45, 48] else bl o ++ par (decide (a.Kind = 4 ∨ o = ⟨#[45]⟩ ∧ a.Kind = 0 ∧ a.N > 0)) t) else bl nm
  | [a, b], [t, u] => if k = 4 then par (decide (levE a < lev o)) t ++ 32 :: (bl o ++ 32 :: par (decide (levE b ≤ lev o)) u) else bl nm
  | _, _ => bl nm
mutual
/-- An expression as it is read. -/
def putE : TreeExpr → List UInt8
  | ⟨k, o, n, nm, ks⟩ => pick k o n nm ks (putL ks)
def putL : List TreeExpr → List (List UInt8)
  | [] => []
  | e :: l => putE e :: putL l
end
theorem num_len : ∀ n ∈ NUML, (bl (E.FormatInt n)).length ≤ 20 := by decide +kernel
theorem nm_len : ∀ n ∈ NL, (bl n).length ≤ 4 := by decide +kernel
theorem bop_len : ∀ o ∈ BOL, (bl o).length ≤ 2 := by decide +kernel
theorem uop_len : ∀ o ∈ UL, (bl o).length ≤ 1 := by decide +kernel
theorem par_len (c : Bool) (t : List UInt8) : (par c t).length ≤ t.length + 2 := by
  cases c <;> simp [par]
theorem putE_len {d : Nat} {e : TreeExpr} (h : WE d e) : (putE e).length + 20 ≤ 40 * 2 ^ d := by
  have one : ∀ d : Nat, 1 ≤ 2 ^ d := fun d => Nat.one_le_pow _ _ (by decide)
  induction h with
  | num d n hn => have := num_len n hn; have := one d; simp only [putE, putL, pick, if_true]; omega
  | var d nm hn => have := nm_len nm hn; have := one d; simp only [putE, putL, pick, if_neg (show ¬ (1 : Int) = 0 by decide)]; omega
  | idx d nm k hn hk ih =>
    have := nm_len nm hn; have := one d
    simp only [putE, putL, pick, if_neg (show ¬ (2 : Int) = 0 by decide), if_true, List.length_append, List.length_cons, List.length_nil, Nat.pow_succ]; omega
  | un d op k ho hk ih =>
    have := uop_len op ho; have := one d
    simp only [putE, putL, pick, if_neg (show ¬ (3 : Int) = 0 by decide), if_neg (show ¬ (3 : Int) = 2 by decide), if_true, Nat.pow_succ]
    split
    · simp only [List.length_cons, List.length_nil]; omega
    · have := par_len (decide (k.Kind = 4 ∨ op = ⟨#[45]⟩ ∧ k.Kind = 0 ∧ k.N > 0)) (putE k)
      simp only [List.length_append]; omega
  | bin d op a b ho ha hb iha ihb =>
    have := bop_len op ho; have := one d
    have := par_len (decide (levE a < lev op)) (putE a)
    have := par_len (decide (levE b ≤ lev op)) (putE b)
    simp only [putE, putL, pick, if_neg (show ¬ (4 : Int) = 0 by decide), if_true, Nat.pow_succ, List.length_append, List.length_cons]; omega
theorem eu_par {e : TreeExpr} {t : List UInt8} (h : Eu (fun n => S.tree_PutExpr n e) (bs t)) (hl : t.length ≤ 1000000) (b : Bool) : Eu (fun n => S.tree_Expr_put n e b) (bs (par b t)) := by
  refine Eu.succ (fun n => S.tree_Expr_put.eq_2 ..) ?_
  cases b with
  | true =>
    refine Eu.t rfl (Eu.bd h (Eu.t (le63 ?_) (Eu.t (le63 ?_) (Eu.ret ?_))))
    · simp only [size_lit, size_bs, List.size_toArray, List.length_cons, List.length_nil]; omega
    · simp only [ByteArray.size_append, size_lit, size_bs, List.size_toArray, List.length_cons, List.length_nil]; omega
    · exact ba_ext (by simp [bl_app, bl_bs, par])
  | false => exact Eu.f rfl (Eu.bd h (Eu.ret rfl))
theorem two_pow_le {d : Nat} (h : d ≤ 10) : 40 * 2 ^ d ≤ 40960 := by
  have := Nat.pow_le_pow_right (n := 2) (by decide) h
  omega
theorem kidsK {l : List TreeExpr} {n : Nat} (h : l.length = n) (hn : n ≤ 100) : inK .i64 (((l.map TreeExpr.v).length : Nat) : Int) = true := inK_map (by rw [h]; exact Nat.le_trans hn (by decide))
/-- What is put of an expression that is made. -/
theorem eu_putE {d : Nat} {e : TreeExpr} (h : WE d e) : d ≤ 10 → Eu (fun n => S.tree_PutExpr n e) (bs (putE e)) := by
  induction h with
  | num d n hn =>
    intro _
    exact Eu.succ (fun n => S.tree_PutExpr.eq_2 ..) (Eu.t rfl (Eu.bd (a := E.FormatInt n) (Eu.eq (fun _ => rfl) (Eu.ret rfl)) (Eu.ret (ba_ext (by simp [bl_bs, putE, putL, pick])))))
  | var d nm hn =>
    intro _
    exact Eu.succ (fun n => S.tree_PutExpr.eq_2 ..) (Eu.f rfl (Eu.f rfl (Eu.f rfl (Eu.f rfl (Eu.ret (ba_ext (by simp [bl_bs, putE, putL, pick])))))))
  | idx d nm k hn hk ih =>
    intro hd
    have h1 := ih (by omega)
    have hl := putE_len hk
    have hp := two_pow_le (d := d) (by omega)
    have hnl := nm_len nm hn
    refine Eu.succ (fun n => S.tree_PutExpr.eq_2 ..) (Eu.f rfl (Eu.t rfl (Eu.t (kidsK (n := 1) rfl (by decide)) (Eu.t rfl (Eu.t (le63 ?_) (Eu.t rfl (Eu.bs (a := k) rfl (Eu.bd h1 (Eu.t (le63 ?_) (Eu.t (le63 ?_) (Eu.ret ?_)))))))))))
    · simp only [size_lit, List.size_toArray, List.length_cons, List.length_nil]
      have : nm.size ≤ 4 := hnl
      omega
    · simp only [ByteArray.size_append, size_lit, size_bs, List.size_toArray, List.length_cons, List.length_nil]
      have : nm.size ≤ 4 := hnl
      omega
    · simp only [ByteArray.size_append, size_lit, size_bs, List.size_toArray, List.length_cons, List.length_nil]
      have : nm.size ≤ 4 := hnl
      omega
    · exact ba_ext (by simp [bl_app, bl_bs, putE, putL, pick])
  | un d op k ho hk ih =>
    intro hd
    have h1 := ih (by omega)
    have hl := putE_len hk
    have hp := two_pow_le (d := d) (by omega)
    have hol : op.size ≤ 1 := uop_len op ho
    have hput := eu_par h1 (by omega)
    have hpl := fun c => par_len c (putE k)
    have hsz : ∀ c, op.size + (bs (par c (putE k))).size ≤ 1000000000000 := fun c => by rw [size_bs]; have := hpl c; omega
    refine Eu.succ (fun n => S.tree_PutExpr.eq_2 ..) (Eu.f rfl (Eu.f rfl (Eu.t rfl (Eu.t (kidsK (n := 1) rfl (by decide)) (Eu.t rfl (Eu.t rfl (Eu.bs (a := k) rfl ?_)))))))
    have fin : ∀ c : Bool, (¬ (op = ⟨#[45]⟩ ∧ k.Kind = 0 ∧ k.N = 0)) → c = decide (k.Kind = 4 ∨ op = ⟨#[45]⟩ ∧ k.Kind = 0 ∧ k.N > 0) → Eu (fun n => (S.tree_Expr_put n k c).bind fun x => (bif decide ((↑(ByteArray.size op + ByteArray.size x) : Int) ≤ 9223372036854775807) then (some (op ++ x)) else none)) (bs (putE ⟨3, op, 0, e0, [k]⟩)) := fun c hc hcc => by
      refine Eu.bd (hput c) (Eu.t (le63 (hsz c)) (Eu.ret (ba_ext ?_)))
      simp only [bl_app, bl_bs, putE, putL, pick, if_neg (show ¬ (3 : Int) = 0 by decide), if_neg (show ¬ (3 : Int) = 2 by decide), if_true, if_neg hc, hcc]
    rw [beq_ba]
    by_cases ho' : op = ⟨#[45]⟩
    · refine Eu.t (decide_eq_true ho') ?_
      by_cases h0 : k.Kind = 0
      · refine Eu.t (by simp [h0]) ?_
        by_cases hn : k.N = 0
        · refine Eu.t (by simp [hn]) (Eu.ret (ba_ext ?_))
          simp only [bl_bs, putE, putL, pick, if_neg (show ¬ (3 : Int) = 0 by decide), if_neg (show ¬ (3 : Int) = 2 by decide), if_true, if_pos (show op = ⟨#[45]⟩ ∧ k.Kind = 0 ∧ k.N = 0 from ⟨ho', h0, hn⟩)]
        · exact Eu.f (by simp [hn]) (fin _ (fun h => hn h.2.2) (by simp [ho', h0]))
      · refine Eu.f (by simp [h0]) ?_
        by_cases h4 : k.Kind = 4
        · exact Eu.t (by simp [h4]) (fin _ (fun h => h0 h.2.1) (by simp [h4]))
        · exact Eu.f (by simp [h4]) (fin _ (fun h => h0 h.2.1) (by simp [h4, h0]))
    · refine Eu.f (decide_eq_false ho') ?_
      by_cases h4 : k.Kind = 4
      · exact Eu.t (by simp [h4]) (fin _ (fun h => ho' h.1) (by simp [h4]))
      · exact Eu.f (by simp [h4]) (fin _ (fun h => ho' h.1) (by simp [h4, ho']))
  | bin d op a b ho ha hb iha ihb =>
    intro hd
    have hla := putE_len ha
    have hlb := putE_len hb
    have hp := two_pow_le (d := d) (by omega)
    have hol : op.size ≤ 2 := bop_len op ho
    have hpa := fun c => par_len c (putE a)
    have hpb := fun c => par_len c (putE b)
    have e4 : levE ⟨4, op, 0, e0, [a, b]⟩ = lev op := rfl
    refine Eu.succ (fun n => S.tree_PutExpr.eq_2 ..) (Eu.f rfl (Eu.f rfl (Eu.f rfl (Eu.t rfl (Eu.t (kidsK (n := 2) rfl (by decide)) (Eu.t rfl (Eu.t rfl (Eu.bs (a := a) rfl (Eu.t rfl (Eu.bs (a := b) rfl (Eu.bd (eu_lev a) (Eu.bd (eu_lev _) (Eu.bd (eu_par (iha (by omega)) (by omega) _) (Eu.t (le63 ?_) (Eu.t (le63 ?_) (Eu.t (le63 ?_) (Eu.bd (eu_lev b) (Eu.bd (eu_lev _) (Eu.bd (eu_par (ihb (by omega)) (by omega) _) (Eu.t (le63 ?_) (Eu.ret ?_)))))))))))))))))))))
    · have := hpa (decide (levE a < lev op))
      simp only [ByteArray.size_append, size_lit, size_bs, List.size_toArray, List.length_cons, List.length_nil, e4]; omega
    · have := hpa (decide (levE a < lev op))
      simp only [ByteArray.size_append, size_lit, size_bs, List.size_toArray, List.length_cons, List.length_nil, e4]; omega
    · have := hpa (decide (levE a < lev op))
      simp only [ByteArray.size_append, size_lit, size_bs, List.size_toArray, List.length_cons, List.length_nil, e4]; omega
    · have := hpa (decide (levE a < lev op))
      have := hpb (decide (levE b ≤ lev op))
      simp only [ByteArray.size_append, size_lit, size_bs, List.size_toArray, List.length_cons, List.length_nil, e4]; omega
    · exact ba_ext (by simp [bl_app, bl_bs, putE, putL, pick, e4])
end Go.Im
