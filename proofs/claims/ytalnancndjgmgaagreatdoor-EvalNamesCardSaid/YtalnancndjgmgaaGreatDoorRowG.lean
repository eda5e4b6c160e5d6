/- What the arguments of a law are: readings of memory as values of the ideal machine. -/
import Derived.Test.YtalnancndjgmgaaGreatDoorImGn
import Derived.Stop.Joined
import Derived.WalkKit
import Derived.ProofKit
import Derived.OpenShut
import Derived.ChangeOld
import Derived.ChangeSlices
import Derived.DataReads
import Derived.Below
import Derived.Carry
set_option maxRecDepth 100000
set_option linter.unusedVariables false
namespace Go.Im
open Go.ChangeShapes Go.WideShapes Go.ChangeAt Go.RowKit
/-- No block is the call's own. -/
abbrev no1 : Nat → Prop := fun _ => False
/-- Cells, one by one. -/
inductive IRs (h : Array Obj) : List V → List Value → Prop
  | nil : IRs h [] []
  | cons {v : V} {x : Value} {vs : List V} {xs : List Value} : IR h no1 v x → IRs h vs xs → IRs h (v :: vs) (x :: xs)
theorem IRs.len {h : Array Obj} {vs : List V} {xs : List Value} (H : IRs h vs xs) : vs.length = xs.length := by
  induction H with
  | nil => rfl
  | cons _ _ ih => simp [ih]
theorem IRs.get {h : Array Obj} {vs : List V} {xs : List Value} (H : IRs h vs xs) : ∀ (j : Nat) (v : V) (x : Value), vs[j]? = some v → xs[j]? = some x → IR h no1 v x := by
  induction H with
  | nil => intro j v x hv; simp at hv
  | cons h0 _ ih =>
    intro j v x hv hx
    cases j with
    | zero => simp at hv hx; subst hv hx; exact h0
    | succ j => exact ih j v x (by simpa using hv) (by simpa using hx)
theorem IRs.app {h : Array Obj} {vs us : List V} {xs ys : List Value} (H : IRs h vs xs) (K : IRs h us ys) : IRs h (vs ++ us) (xs ++ ys) := by
  induction H with
  | nil => exact K
  | cons h0 _ ih => exact .cons h0 ih
theorem IRs.agg {h : Array Obj} {vs : List V} {xs : Array Value} (H : IRs h vs xs.toList) : IR h no1 (.agg vs) (.agg xs) :=
  .agg _ _ (by simpa using H.len) fun j v x hv hx => H.get j v x hv (by simpa using hx)
theorem IRs.one {h : Array Obj} {v : V} {x : Value} (hv : IR h no1 v x) : IRs h [v] [x] := .cons hv .nil
theorem IRs.of1 {h : Array Obj} {v : V} {x : Value} (H : IRs h [v] [x]) : IR h no1 v x := by
  cases H with
  | cons h0 _ => exact h0
section
variable {H : Type} (enc : TypeId × Value → H) (P : Program) (w : World) (base : Nat) (spare : Nat → Bool) (held : Bool)
/-- What a reading of the type gives, at this depth. -/
def Rd (n : Nat) (t : TypeId) {α : Type} (e : α → V) (good : α → DataW H → Prop) : Prop :=
  ∀ (cs : List Value) (x : DataW H × List MemPlace), DataW.trod enc P w base spare held n t cs = some x → ∃ a : α, good a x.1 ∧ IRs w.heap (e a).cells cs
variable {enc P w base spare held}
theorem rd_bool {t : TypeId} {n : Nat} (ht : P.underlying t = some .bool) : Rd enc P w base spare held n t (V.bool true) (fun _ _ => True) := fun cs x h => by
  obtain ⟨b, rfl, _⟩ := DataW.trod_bool ht h
  exact ⟨b, trivial, .one (.bool _ _)⟩
theorem rd_int {t : TypeId} {k : IntKind} {n : Nat} (ht : P.underlying t = some (.int k)) (hin : ∀ n : Int, (Lit.int k n).wf = true → inK k n = true) : Rd enc P w base spare held n t (V.int true k) (fun a _ => inK k a = true) := fun cs x h => by
  obtain ⟨m, rfl, _, hw⟩ := DataW.trod_int ht h
  exact ⟨m, hin m hw, .one (.int _ _ _ (hin m hw))⟩
theorem wf_u8 {n : Int} (h : (Lit.int .u8 n).wf = true) : inK .u8 n = true := by
  have h' : (decide ((0 : Int) ≤ n) && decide (n ≤ (255 : Int))) = true := h
  exact h'
theorem wf_i64 {n : Int} (h : (Lit.int .i64 n).wf = true) : inK .i64 n = true := by
  have h' : (decide ((-9223372036854775808 : Int) ≤ n) && decide (n ≤ (9223372036854775807 : Int))) = true := h
  exact h'
theorem wf_u64 {n : Int} (h : (Lit.int .u64 n).wf = true) : inK .u64 n = true := by
  have h' : (decide ((0 : Int) ≤ n) && decide (n ≤ (18446744073709551615 : Int))) = true := h
  exact h'
theorem wf_u32 {n : Int} (h : (Lit.int .u32 n).wf = true) : inK .u32 n = true := by
  have h' : (decide ((0 : Int) ≤ n) && decide (n ≤ (4294967295 : Int))) = true := h
  exact h'
theorem wf_u16 {n : Int} (h : (Lit.int .u16 n).wf = true) : inK .u16 n = true := by
  have h' : (decide ((0 : Int) ≤ n) && decide (n ≤ (65535 : Int))) = true := h
  exact h'
theorem byte_of {n : Int} (h : (Lit.int .u8 n).wf = true) : ((UInt8.ofNat n.toNat).toNat : Int) = n := by
  have h' : (decide ((0 : Int) ≤ n) && decide (n ≤ (255 : Int))) = true := h
  simp only [Bool.and_eq_true, decide_eq_true_eq] at h'
  have : (UInt8.ofNat n.toNat).toNat = n.toNat % 256 := by simp
  rw [this]; omega
theorem rd_byte {t : TypeId} {n : Nat} (ht : P.underlying t = some (.int .u8)) : Rd enc P w base spare held n t bV (fun _ _ => True) := fun cs x h => by
  obtain ⟨m, rfl, _, hw⟩ := DataW.trod_int ht h
  refine ⟨UInt8.ofNat m.toNat, trivial, .one ?_⟩
  have : bV (UInt8.ofNat m.toNat) = .int true .u8 m := by unfold bV; rw [byte_of hw]
  rw [this]
  exact .int _ _ _ (wf_u8 hw)
theorem rd_str {t : TypeId} {n : Nat} (ht : P.underlying t = some .string) : Rd enc P w base spare held n t (V.str true) (fun s d => s.size ≤ maxLen ∧ d = .lit (.string s.data.toList)) := fun cs x h => by
  obtain ⟨s, rfl, rfl, hs⟩ := DataW.trod_string ht h
  exact ⟨s, ⟨hs, rfl⟩, .one (.str _ _)⟩
theorem list_of {α : Type} {Q : Nat → α → Prop} : ∀ n, (∀ i, i < n → ∃ a, Q i a) → ∃ l : List α, l.length = n ∧ ∀ i a, l[i]? = some a → Q i a
  | 0, _ => ⟨[], rfl, fun i a h => by simp at h⟩
  | n + 1, h => by
    obtain ⟨l, hl, hq⟩ := list_of n fun i hi => h i (by omega)
    obtain ⟨a, ha⟩ := h n (by omega)
    refine ⟨l ++ [a], by simp [hl], fun i b hb => ?_⟩
    rcases Nat.lt_or_ge i n with hi | hi
    · rw [List.getElem?_append_left (by omega)] at hb; exact hq i b hb
    · rw [List.getElem?_append_right (by omega)] at hb
      have : i = n := by
        have := (List.getElem?_eq_some_iff.1 hb).1
        simp at this; omega
      subst this
      simp [hl] at hb
      subst hb; exact ha
theorem cell_block {a : Addr} {v : Value} (h : w.cell? a = some v) : ∃ (c : Array Value) (e : TypeId) (f : Nat × Nat), w.heap[a.block]? = some (.cells c e f) ∧ a.spot = none ∧ c[a.off]? = some v := by
  unfold World.cell? at h
  split at h
  · rename_i c e f hb
    split at h
    · cases h
    · rename_i hs
      refine ⟨c, e, f, hb, ?_, h⟩
      cases hx : a.spot with
      | none => rfl
      | some _ => rw [hx] at hs; simp at hs
  · cases h
theorem addr_off (a : Addr) (n : Nat) : (a.add n).off = a.off + n := by
  unfold Addr.add
  split
  · rename_i h; subst h; rfl
  · rfl
theorem addr_block (a : Addr) (n : Nat) : (a.add n).block = a.block := by
  unfold Addr.add
  split <;> rfl
/-- What a slice's reading is worth. -/
def goodL {α : Type} (good : α → DataW H → Prop) (l : List α) (d : DataW H) : Prop :=
  l.length ≤ maxLen ∧ ((l = [] ∧ d = .nil) ∨ ∃ ds ss, d = .slice ds ss ∧ ds.length = l.length ∧ ∀ (i : Nat) (a : α) (y : DataW H), l[i]? = some a → ds[i]? = some y → good a y)
theorem rd_slice {t e : TypeId} {n : Nat} {α : Type} {f : α → V} {good : α → DataW H → Prop} (ht : P.underlying t = some (.slice e)) (hpos : 0 < P.cellsOf e) (hr : ∀ m, m < n → Rd enc P w base spare held m e f good) :
    Rd enc P w base spare held n t (lvT f) (goodL good) := fun cs x h => by
  rcases DataW.trod_slice ht h with ⟨rfl, rfl⟩ | ⟨a, len, cap, elems, rest, m, hm, rfl, rfl, hb, hl, hmx, hlen, hel, _⟩
  · exact ⟨[], ⟨by simp, .inl ⟨rfl, rfl⟩⟩, .one (.isl0 _ _ _)⟩
  · have key : ∀ i, i < len → ∃ q : α, ∃ y cs', elems[i]? = some y ∧ w.cells? base (a.add (i * P.cellsOf e)) (P.cellsOf e) = some cs' ∧ good q y.1 ∧ IRs w.heap (f q).cells cs' := fun i hi => by
      have h1 := hel i hi
      have h2 : elems[i]? = some elems[i] := List.getElem?_eq_getElem (by omega)
      rw [h2] at h1
      obtain ⟨cs', h3, h4⟩ := Option.bind_eq_some_iff.1 h1
      obtain ⟨q, hg, hq⟩ := hr m (by omega) _ _ h4
      exact ⟨q, _, cs', h2, h3, hg, hq⟩
    obtain ⟨l, hll, hlq⟩ := list_of len key
    refine ⟨l, ⟨by omega, .inr ⟨_, _, rfl, by simp [hlen, hll], fun i b y hb' hy => ?_⟩⟩, ?_⟩
    · obtain ⟨z, _, hz, _, hg, _⟩ := hlq i b hb'
      rw [List.getElem?_map, hz] at hy
      simp at hy; subst hy; exact hg
    · have hcase : l = [] ∨ 0 < len := by
        cases l with
        | nil => exact .inl rfl
        | cons _ _ => right; simp at hll; omega
      rcases hcase with rfl | h0
      · simp at hll; subst hll; exact .one (.isl0 _ _ _)
      · have get : ∀ i q, l[i]? = some q → ∃ cs', w.cells? base (a.add (i * P.cellsOf e)) (P.cellsOf e) = some cs' ∧ IRs w.heap (f q).cells cs' := fun i q hq => by
          obtain ⟨_, cs', _, h1, _, h2⟩ := hlq i q hq
          exact ⟨cs', h1, h2⟩
        obtain ⟨q0, hq0⟩ : ∃ q0, l[0]? = some q0 := ⟨l[0], List.getElem?_eq_getElem (by omega)⟩
        obtain ⟨c0, hc0, _⟩ := get 0 q0 hq0
        obtain ⟨_, hlen0, hcell0⟩ := World.cells?_some hc0
        have hv0 := hcell0 0 hpos
        have ha0 : (a.add (0 * P.cellsOf e)).add 0 = a := by simp [Addr.add]
        rw [ha0] at hv0
        obtain ⟨v0, hv0'⟩ : ∃ v0, c0[0]? = some v0 := ⟨c0[0]'(by omega), List.getElem?_eq_getElem _⟩
        rw [hv0'] at hv0
        obtain ⟨c, ce, cf, hbl, hsp, _⟩ := cell_block hv0
        obtain ⟨b, o, spot⟩ := a
        dsimp only at hsp hbl
        subst hsp
        refine .one ?_
        have hml : (l.map f).length = len := by rw [List.length_map, hll]
        have val : ∀ (i : Nat) (u : V) (j : Nat) (y : V), (l.map f)[i]? = some u → u.cells[j]? = some y → ∃ z, c[o + i * P.cellsOf e + j]? = some z ∧ IR w.heap no1 y z := by
          intro i u j y hu hy
          rw [List.getElem?_map] at hu
          obtain ⟨q, hq, rfl⟩ := Option.map_eq_some_iff.1 hu
          obtain ⟨cs', h1, h2⟩ := get i q hq
          obtain ⟨_, hlen', hcell⟩ := World.cells?_some h1
          have hj : j < cs'.length := by
            have := (List.getElem?_eq_some_iff.1 hy).1
            rw [← h2.len]; exact this
          have h3 := hcell j (by omega)
          rw [List.getElem?_eq_getElem hj] at h3
          obtain ⟨c', _, _, hb', _, hc'⟩ := cell_block h3
          rw [addr_block, addr_block] at hb'
          rw [hbl] at hb'
          cases hb'
          rw [addr_off, addr_off] at hc'
          exact ⟨_, hc', h2.get j y _ hy (List.getElem?_eq_getElem hj)⟩
        have := IR.isl (h := w.heap) (own := no1) true (l.map f) b o cap (P.cellsOf e) c ce cf (fun i j => (c[o + i * P.cellsOf e + j]?).getD .nilFunc) (by omega) (fun h => h) hbl
          (fun i u hu => by
            rw [List.getElem?_map] at hu
            obtain ⟨q, hq, rfl⟩ := Option.map_eq_some_iff.1 hu
            obtain ⟨cs', h1, h2⟩ := get i q hq
            obtain ⟨_, hlen', _⟩ := World.cells?_some h1
            rw [h2.len, hlen'])
          (fun i u j y hu hy => by
            obtain ⟨z, hz, _⟩ := val i u j y hu hy
            simp only [hz, Option.getD_some])
          (fun i u j y hu hy => by
            obtain ⟨z, hz, hir⟩ := val i u j y hu hy
            simp only [hz, Option.getD_some]
            exact hir)
        rw [hml] at this
        exact this
/-- A struct's fields, one by one. -/
theorem rd_fields {t : TypeId} {fs : Array Field} {n : Nat} {cs : List Value} {x : DataW H × List MemPlace} (ht : P.underlying t = some (.struct fs)) (h : DataW.trod enc P w base spare held n t cs = some x) :
    ∃ (ys : List (DataW H × List MemPlace)) (m : Nat), m < n ∧ cs.length = P.cellsOf t ∧ x.1 = .agg (ys.map (·.1)) ∧ ys.length = fs.size ∧ ∀ (i : Nat) (f : Field), fs[i]? = some f → ∃ y, ys[i]? = some y ∧ DataW.trod enc P w base spare held m f.type ((cs.drop f.offset).take (P.cellsOf f.type)) = some y := by
  obtain ⟨xs, m, hm, hx, hl, hxl, hf⟩ := DataW.trod_struct ht h
  refine ⟨xs, m, by omega, hl, by rw [hx], hxl, fun i f hfi => ?_⟩
  have hi : i < xs.length := by rw [hxl]; exact (Array.getElem?_eq_some_iff.1 hfi).1
  exact ⟨xs[i], List.getElem?_eq_getElem hi, by rw [hf i f hfi, List.getElem?_eq_getElem hi]⟩
end
theorem array_of {n : Nat} {cs : List Value} (h : cs.length = n) : cs = (List.range n).map fun i => cs.getD i .nilFunc := by
  apply List.ext_getElem?
  intro i
  simp only [List.getElem?_map]
  rcases Nat.lt_or_ge i n with hi | hi
  · rw [List.getElem?_range hi, List.getElem?_eq_getElem (by omega)]
    simp [List.getD, List.getElem?_eq_getElem (show i < cs.length by omega)]
  · rw [List.getElem?_eq_none (by omega), List.getElem?_eq_none (by simpa using hi)]; rfl
/-- An argument: what it is, of what it reads as. -/
theorem arg_of {H : Type} {enc : TypeId × Value → H} {P : Program} {w : World} {base : Nat} {spare : Nat → Bool} {held : Bool} {t : TypeId} {v : Value} {d : DataW H} {p : List MemPlace} {α : Type} {e : α → V} {good : α → DataW H → Prop}
    (hr : ∀ n, Rd enc P w base spare held n t e good) (hd : DataW.Trod enc P w base spare held t v d p) : ∃ a, good a d ∧ IRs w.heap (e a).cells v.cells.toList := by
  obtain ⟨fuel, hf⟩ := hd
  exact hr fuel _ _ hf
end Go.Im
namespace Go.Im
theorem IRs.step {h : Array Obj} {A B : List V} {cs : List Value} {o s o' : Nat} (ho : o + s = o') (i : IRs h A ((cs.drop o).take s)) (r : IRs h B (cs.drop o')) : IRs h (A ++ B) (cs.drop o) := by
  have := i.app r
  rw [← ho, ← List.drop_drop, List.take_append_drop] at this
  exact this
theorem IRs.fin {h : Array Obj} {cs : List Value} {n : Nat} (hl : cs.length = n) : IRs h [] (cs.drop n) := by
  rw [List.drop_eq_nil_of_le (by omega)]
  exact .nil
end Go.Im
