/- A slice of numbers that a law is given: as a value of the ideal machine. -/
import Derived.Test.YtobomgckeoomkaaRowBase
import Derived.ChangeSlices
set_option maxRecDepth 100000
set_option linter.unusedVariables false
namespace Go.Proofs.Ytobomgckeoomkaa
open Go.ChangeShapes Go.WideShapes Go.ChangeAt Go.RowKit Go.Im
theorem cell_block {w : World} {a : Addr} {v : Value} (h : w.cell? a = some v) : ∃ (c : Array Value) (e : TypeId) (f : Nat × Nat), w.heap[a.block]? = some (.cells c e f) ∧ a.spot = none ∧ c[a.off]? = some v := by
  unfold World.cell? at h
  split at h
  · rename_i c e f hb
    split at h
    · cases h
    · rename_i hs
      refine ⟨c, e, f, hb, ?_, h⟩
      cases hx : a.spot with
      | none => rfl
      | some _ => rw [hx] at hs; simp at hs
  · cases h
theorem add_off (a : Addr) (n : Nat) : (a.add n).off = a.off + n := by
  unfold Addr.add
  split
  · rename_i h; subst h; rfl
  · rfl
theorem open_islice {H : Type} {enc : TypeId × Value → H} {P : Program} {w : World} {base b0 : Nat} {spare : Nat → Bool} {held : Bool} {r : Reach} {t e : TypeId} {k : IntKind} (ht : P.underlying t = some (.slice e)) (he : P.underlying e = some (.int k)) (hc : P.cellsOf e = 1)
    (hin : ∀ n : Int, (Lit.int k n).wf = true → inK k n = true) {v : Value} {d : DataW H} {p : List MemPlace} (hv : Value.okWide P w r b0 t v) (h : DataW.Trod enc P w base spare held t v d p) :
    ∃ l : List Int, IR w.heap (fun _ => False) (.isl true (l.map (V.int true k))) v ∧ (∀ x ∈ l, inK k x = true) ∧ l.length ≤ maxLen := by
  obtain ⟨a, len, cap, rfl⟩ := okWide_slice ht hv
  obtain ⟨fuel, hf⟩ := h
  rcases open_ints ht he hc hf with ⟨h1, _⟩ | ⟨a', len', cap', zs, h1, hb, hl, hm, hz, _, hcell, hwf⟩
  · simp only [Value.cells, List.cons.injEq, and_true] at h1
    cases h1
    exact ⟨[], .isl0 _ _ _, fun x h => by simp at h, by simp⟩
  · simp only [Value.cells, List.cons.injEq, and_true] at h1
    cases h1
    have hlz : len ≤ zs.length := by rw [hz]; split <;> omega
    have hll : (zs.take len).length = len := by rw [List.length_take]; omega
    refine ⟨zs.take len, ?_, fun x hx => hin x (hwf x (List.mem_of_mem_take hx)), by omega⟩
    cases hk : zs.take len with
    | nil =>
      rw [hk] at hll
      have : len = 0 := by simpa using hll.symm
      subst this
      exact .isl0 _ _ _
    | cons x0 xr =>
      have h0 : 0 < len := by rw [hk] at hll; simp at hll; omega
      obtain ⟨c, ce, f, hbl, hsp, _⟩ := cell_block (hcell 0 (by omega))
      have e0 : a'.add 0 = a' := by simp [Addr.add]
      rw [e0] at hbl hsp
      rw [← hk]
      obtain ⟨b, o, spot⟩ := a'
      dsimp only at hsp hbl
      subst hsp
      have hlen : ((zs.take len).map (V.int true k)).length = len := by rw [List.length_map, hll]
      have key : ∀ (i : Nat) (u : V) (j : Nat) (y : V), ((zs.take len).map (V.int true k))[i]? = some u → u.cells[j]? = some y → j = 0 ∧ i < len ∧ y = .int true k (zs.getD i 0) := by
        intro i u j y hu hy
        rw [List.getElem?_map] at hu
        obtain ⟨n, hn, rfl⟩ := Option.map_eq_some_iff.1 hu
        have hi : i < len := by have := (List.getElem?_eq_some_iff.1 hn).1; omega
        rw [List.getElem?_take, if_pos hi] at hn
        cases j with
        | zero =>
          simp only [V.cells, List.getElem?_cons_zero, Option.some.injEq] at hy
          refine ⟨rfl, hi, ?_⟩
          rw [← hy, List.getD, hn]; rfl
        | succ j => simp [V.cells] at hy
      have := IR.isl (h := w.heap) (own := fun _ => False) true ((zs.take len).map (V.int true k)) b o cap 1 c ce f (fun i _ => .int k (zs.getD i 0)) (by omega) (fun h => h) hbl
        (fun i u hu => by
          rw [List.getElem?_map] at hu
          obtain ⟨n, hn, rfl⟩ := Option.map_eq_some_iff.1 hu
          rfl)
        (fun i u j y hu hy => by
          obtain ⟨rfl, hi, _⟩ := key i u j y hu hy
          obtain ⟨c', e', f', hb', _, hc'⟩ := cell_block (hcell i (by omega))
          rw [block_add] at hb'
          rw [hbl] at hb'
          cases hb'
          rw [add_off] at hc'
          simpa using hc')
        (fun i u j y hu hy => by
          obtain ⟨rfl, hi, rfl⟩ := key i u j y hu hy
          refine .int _ _ _ (hin _ (hwf _ ?_))
          have hiz : i < zs.length := by omega
          have : zs.getD i 0 = zs[i] := by simp [List.getD, hiz]
          rw [this]; exact List.getElem_mem hiz)
      rw [hlen] at this
      exact this
theorem len_wf {n : Nat} (h : n ≤ maxLen) : (Lit.int .i64 (n : Int)).wf = true := by
  have h1 : n ≤ 9223372036854775807 := h
  have h' : (decide ((-9223372036854775808 : Int) ≤ (n : Int)) && decide ((n : Int) ≤ (9223372036854775807 : Int))) = true := by
    simp only [Bool.and_eq_true, decide_eq_true_eq]; omega
  exact h'
end Go.Proofs.Ytobomgckeoomkaa
