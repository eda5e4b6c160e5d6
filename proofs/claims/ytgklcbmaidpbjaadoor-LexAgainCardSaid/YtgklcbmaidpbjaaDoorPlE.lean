/- Plain laws: rules: what a function comes to, for all fuel that is enough. -/
import Derived.Test.YtgklcbmaidpbjaaDoorImGn
set_option linter.unusedVariables false
set_option linter.unusedSimpArgs false
namespace Go.Im
/-- For all fuel that is enough. -/
def Eu {α : Type} (F : Nat → Option α) (r : α) : Prop := ∃ N, ∀ n, N ≤ n → F n = some r
section
variable {α β : Type} {r : α}
theorem Eu.ret {a r : α} (h : a = r) : Eu (fun _ => some a) r := ⟨0, fun _ _ => by rw [h]⟩
theorem Eu.bd {F : Nat → Option α} {G : Nat → α → Option β} {a : α} {b : β} (h : Eu F a) (k : Eu (fun n => G n a) b) : Eu (fun n => (F n).bind (fun x => G n x)) b := by
  obtain ⟨N, h⟩ := h
  obtain ⟨M, k⟩ := k
  exact ⟨max N M, fun n hn => by show (F n).bind _ = _; rw [h n (by omega)]; exact k n (by omega)⟩
theorem Eu.bs {o : Option α} {G : Nat → α → Option β} {a : α} {b : β} (h : o = some a) (k : Eu (fun n => G n a) b) : Eu (fun n => o.bind (fun x => G n x)) b := by
  rw [h]; exact k
theorem Eu.t {c : Bool} {A B : Nat → Option α} (h : c = true) (k : Eu A r) : Eu (fun n => bif c then A n else B n) r := by subst h; exact k
theorem Eu.f {c : Bool} {A B : Nat → Option α} (h : c = false) (k : Eu B r) : Eu (fun n => bif c then A n else B n) r := by subst h; exact k
theorem Eu.c {c : Bool} {A B : Nat → Option α} (h1 : c = true → Eu A r) (h2 : c = false → Eu B r) : Eu (fun n => bif c then A n else B n) r := by
  cases c with
  | true => exact h1 rfl
  | false => exact h2 rfl
theorem Eu.succ {F G : Nat → Option α} (e : ∀ n, F (n + 1) = G n) (k : Eu G r) : Eu F r := by
  obtain ⟨N, k⟩ := k
  refine ⟨N + 1, fun n hn => ?_⟩
  obtain ⟨m, rfl⟩ : ∃ m, n = m + 1 := ⟨n - 1, by omega⟩
  rw [e]; exact k m (by omega)
theorem Eu.eq {F G : Nat → Option α} (e : ∀ n, F n = G n) (k : Eu G r) : Eu F r := by
  obtain ⟨N, k⟩ := k
  exact ⟨N, fun n hn => by rw [e]; exact k n hn⟩
theorem Eu.cast {F : Nat → Option α} {a r : α} (h : Eu F a) (e : a = r) : Eu F r := e ▸ h
theorem Eu.get {F : Nat → Option α} (h : Eu F r) : ∃ n, F n = some r := by
  obtain ⟨N, h⟩ := h
  exact ⟨N, h N (Nat.le_refl _)⟩
end
/-- Numbers that are not too great. -/
abbrev LM : Nat := 4611686018427387904
theorem inK_nat {n : Nat} (h : n ≤ LM) : inK .i64 (n : Int) = true := by
  have h' : n ≤ 4611686018427387904 := h
  show (decide ((-9223372036854775808 : Int) ≤ (n : Int)) && decide ((n : Int) ≤ (9223372036854775807 : Int))) = true
  rw [decide_eq_true (by omega), decide_eq_true (by omega)]; rfl
theorem inK_map {α : Type} {f : α → V} {l : List α} (h : l.length ≤ LM) : inK .i64 (((l.map f).length : Nat) : Int) = true := by
  rw [List.length_map]; exact inK_nat h
theorem wrap_id {n : Int} (h1 : -9223372036854775808 ≤ n) (h2 : n ≤ 9223372036854775807) : IntKind.wrap .i64 n = n := by
  by_cases hc : n % 18446744073709551616 ≥ 9223372036854775808
  · have : IntKind.wrap .i64 n = n % 18446744073709551616 - 18446744073709551616 := if_pos (by
      show (true && decide (n % 18446744073709551616 ≥ 9223372036854775808)) = true
      rw [decide_eq_true hc]; rfl)
    rw [this]; omega
  · have : IntKind.wrap .i64 n = n % 18446744073709551616 := if_neg (by
      show ¬ (true && decide (n % 18446744073709551616 ≥ 9223372036854775808)) = true
      rw [decide_eq_false hc]; exact Bool.false_ne_true)
    rw [this]; omega
theorem inR {i n : Nat} (h : i < n) : inRange (i : Int) n = true := by
  simp only [inRange, Bool.and_eq_true, decide_eq_true_eq]; omega
theorem inRm {α : Type} {f : α → V} {l : List α} {i : Nat} (h : i < l.length) : inRange (i : Int) (l.map f).length = true := by
  rw [List.length_map]; exact inR h
theorem nat_get {α : Type} {l : List α} {i : Nat} (h : i < l.length) : l[Int.toNat (i : Int)]? = some l[i] := by
  rw [show Int.toNat (i : Int) = i by omega, List.getElem?_eq_getElem h]
theorem wrap_s {i : Nat} (h : i < LM) : IntKind.wrap .i64 ((i : Int) + 1) = ((i + 1 : Nat) : Int) := by
  have h' : i < 4611686018427387904 := h
  rw [wrap_id (by omega) (by omega)]; omega
/-- For all fuel that is enough it comes to one thing, and that is so. -/
def EuP {α : Type} (F : Nat → Option α) (P : α → Prop) : Prop := ∃ r, Eu F r ∧ P r
section
variable {α β : Type} {P : α → Prop} {Q : β → Prop}
theorem EuP.ret {a : α} (h : P a) : EuP (fun _ => some a) P := ⟨a, Eu.ret rfl, h⟩
theorem EuP.of {F : Nat → Option α} {r : α} (h : Eu F r) (p : P r) : EuP F P := ⟨r, h, p⟩
theorem EuP.bd {F : Nat → Option α} {G : Nat → α → Option β} (h : EuP F P) (k : ∀ a, P a → EuP (fun n => G n a) Q) : EuP (fun n => (F n).bind (fun x => G n x)) Q := by
  obtain ⟨a, ha, pa⟩ := h
  obtain ⟨b, hb, qb⟩ := k a pa
  exact ⟨b, Eu.bd ha hb, qb⟩
theorem EuP.bs {o : Option α} {G : Nat → α → Option β} {a : α} (h : o = some a) (k : EuP (fun n => G n a) Q) : EuP (fun n => o.bind (fun x => G n x)) Q := by
  rw [h]; exact k
theorem EuP.t {c : Bool} {A B : Nat → Option α} (h : c = true) (k : EuP A P) : EuP (fun n => bif c then A n else B n) P := by subst h; exact k
theorem EuP.f {c : Bool} {A B : Nat → Option α} (h : c = false) (k : EuP B P) : EuP (fun n => bif c then A n else B n) P := by subst h; exact k
theorem EuP.c {c : Bool} {A B : Nat → Option α} (h1 : c = true → EuP A P) (h2 : c = false → EuP B P) : EuP (fun n => bif c then A n else B n) P := by
  cases c with
  | true => exact h1 rfl
  | false => exact h2 rfl
theorem EuP.succ {F G : Nat → Option α} (e : ∀ n, F (n + 1) = G n) (k : EuP G P) : EuP F P := by
  obtain ⟨r, h, p⟩ := k
  exact ⟨r, Eu.succ e h, p⟩
theorem EuP.eq {F G : Nat → Option α} (e : ∀ n, F n = G n) (k : EuP G P) : EuP F P := by
  obtain ⟨r, h, p⟩ := k
  exact ⟨r, Eu.eq e h, p⟩
theorem EuP.mono {F : Nat → Option α} {P' : α → Prop} (h : EuP F P) (k : ∀ a, P a → P' a) : EuP F P' := by
  obtain ⟨r, h, p⟩ := h
  exact ⟨r, h, k r p⟩
theorem EuP.el {l : List α} {i : Nat} {G : Nat → α → Option β} (h : i < l.length) (k : ∀ a ∈ l, EuP (fun n => G n a) Q) : EuP (fun n => (l[i]?).bind (fun x => G n x)) Q :=
  EuP.bs (List.getElem?_eq_getElem h) (k _ (List.getElem_mem h))
end
theorem tmodN (a b : Nat) : Int.tmod (a : Int) (b : Int) = ((a % b : Nat) : Int) := by
  rw [Int.tmod_eq_emod_of_nonneg (by omega)]; omega
theorem tdivN (a b : Nat) : Int.tdiv (a : Int) (b : Int) = ((a / b : Nat) : Int) := by
  rw [Int.tdiv_eq_ediv_of_nonneg (by omega)]; omega
theorem wrapNat {n : Nat} (h : n ≤ 9000000000000000000) : IntKind.wrap .i64 (n : Int) = (n : Int) := wrap_id (by omega) (by omega)
abbrev bl (b : ByteArray) : List UInt8 := b.data.toList
theorem bl_bs (l : List UInt8) : (bs l).data.toList = l := by simp [bs]
theorem tl_bs (l : List UInt8) : (bs l).toList = l := by rw [ByteArray.toList_eq, bl_bs]
theorem size_bs (l : List UInt8) : (bs l).size = l.length := by simp [bs, ByteArray.size]
theorem size_lit (l : Array UInt8) : ByteArray.size ⟨l⟩ = l.size := rfl
theorem bl_app (a b : ByteArray) : (a ++ b).data.toList = a.data.toList ++ b.data.toList := by rw [ByteArray.data_append, Array.toList_append]
theorem ba_ext {a b : ByteArray} (h : a.data.toList = b.data.toList) : a = b := by
  cases a; cases b
  exact congrArg ByteArray.mk (Array.toList_inj.1 h)
theorem beq_ba {a b : ByteArray} : (ByteArray.toList a == ByteArray.toList b) = decide (a = b) := by
  rw [ByteArray.toList_eq, ByteArray.toList_eq]
  by_cases h : a = b
  · subst h; simp
  · have : ¬ a.data.toList = b.data.toList := fun e => h (ba_ext e)
    rw [decide_eq_false h]; exact beq_false_of_ne this
theorem le63 {n : Nat} (h : n ≤ 1000000000000) : decide ((n : Int) ≤ 9223372036854775807) = true := decide_eq_true (by omega)
theorem bs_bl (b : ByteArray) : bs (bl b) = b := ba_ext (by simp [bl_bs])
theorem bs_app (a b : List UInt8) : bs a ++ bs b = bs (a ++ b) := ba_ext (by simp [bl_app, bl_bs])
theorem Eu.one {α : Type} {F : Nat → Option α} {a b : α} (h : Eu F a) (k : Eu F b) : a = b := by
  obtain ⟨N, h⟩ := h
  obtain ⟨M, k⟩ := k
  have h1 := h (max N M) (by omega)
  have h2 := k (max N M) (by omega)
  rw [h1] at h2; exact Option.some.inj h2
theorem wrapN {a : Int} (n : Nat) (h : n ≤ 9000000000000000000) (e : a = (n : Int)) : IntKind.wrap .i64 a = (n : Int) := by
  rw [wrap_id (by omega) (by omega), e]
theorem ba_extract (s : List UInt8) (i j : Nat) : ByteArray.extract (bs s) i j = bs ((s.drop i).take (j - i)) :=
  ba_ext (by simp [bl_bs, ByteArray.data_extract, List.extract_eq_take_drop])
end Go.Im
