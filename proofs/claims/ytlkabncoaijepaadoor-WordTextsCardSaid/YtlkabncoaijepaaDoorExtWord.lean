import Derived.Test.YtlkabncoaijepaaDoorProg
import Derived.Below
import Derived.Tactics
import Derived.WalkKit
import Derived.KernelRfl
import Derived.RowKit3
import Derived.Deep.LoopGhost
import Derived.Deep.QuietTactic
import Derived.BigQuiet
import Derived.WalkLawsBesides
import Derived.WalkSpells
import Derived.Laws.EntriesVeiled
import Derived.Outline
import Derived.IntWalk
import Derived.Lib.Hide
import Derived.Laws.Slices
import Derived.Laws.Rows
import Derived.RowKit
import Derived.Test.YtlkabncoaijepaaDoorWWords
import Derived.Test.YtlkabncoaijepaaDoorWMore
namespace Go.Proofs.YtlkabncoaijepaaDoor.X
open Go.RowKit Go.Proofs.YtlkabncoaijepaaDoorW.PrintWords Go.Proofs.YtlkabncoaijepaaDoorW.PrintLast Go.Proofs.YtlkabncoaijepaaDoorW.PrintMore

def opCells : Array Value := #[
  .string ⟨#[124, 124]⟩, .int .i64 1, .func (.func 31) #[] #[],
  .string ⟨#[38, 38]⟩, .int .i64 2, .func (.func 32) #[] #[],
  .string ⟨#[124]⟩, .int .i64 3, .func (.func 33) #[] #[],
  .string ⟨#[94]⟩, .int .i64 4, .func (.func 34) #[] #[],
  .string ⟨#[38]⟩, .int .i64 5, .func (.func 35) #[] #[],
  .string ⟨#[61, 61]⟩, .int .i64 6, .func (.func 27) #[] #[],
  .string ⟨#[33, 61]⟩, .int .i64 6, .func (.func 36) #[] #[],
  .string ⟨#[60]⟩, .int .i64 7, .func (.func 37) #[] #[],
  .string ⟨#[60, 61]⟩, .int .i64 7, .func (.func 38) #[] #[],
  .string ⟨#[62]⟩, .int .i64 7, .func (.func 39) #[] #[],
  .string ⟨#[62, 61]⟩, .int .i64 7, .func (.func 40) #[] #[],
  .string ⟨#[60, 60]⟩, .int .i64 8, .func (.func 41) #[] #[],
  .string ⟨#[62, 62]⟩, .int .i64 8, .func (.func 42) #[] #[],
  .string ⟨#[43]⟩, .int .i64 9, .func (.func 43) #[] #[],
  .string ⟨#[45]⟩, .int .i64 9, .func (.func 44) #[] #[],
  .string ⟨#[42]⟩, .int .i64 10, .func (.func 45) #[] #[],
  .string ⟨#[47]⟩, .int .i64 10, .func (.func 46) #[] #[],
  .string ⟨#[37]⟩, .int .i64 10, .func (.func 47) #[] #[]]

theorem infoOp : (Tryd.prog.info? 47).map (fun i => (i.size, i.bytes)) = some (3, 32) := by kernel_rfl

set_option maxHeartbeats 2000000 in
set_option maxRecDepth 100000 in
theorem all_calls (w : World) : Calls Tryd.prog 28 #[] w fun e w' => e = .returned (.slice (some ⟨w.heap.size, 0, none⟩) 18 18) ∧ w.alloc (.cells opCells 47) = w' := by
  go_enter Tryd.func28, Tryd.ntmps28
  go_wp2
  go_ret
  exact ⟨rfl, rfl⟩

def opTexts : List (List UInt8) := [[124, 124], [38, 38], [124], [94], [38], [61, 61], [33, 61], [60], [60, 61], [62], [62, 61], [60, 60], [62, 62], [43], [45], [42], [47], [37]]
def opLevels : List Int := [1, 2, 3, 4, 5, 6, 6, 7, 7, 7, 7, 8, 8, 9, 9, 10, 10, 10]
def opFuncs : List Nat := [31, 32, 33, 34, 35, 27, 36, 37, 38, 39, 40, 41, 42, 43, 44, 45, 46, 47]
/-- The text of operation k. -/
def opT (k : Nat) : ByteArray := ⟨(opTexts.getD k []).toArray⟩
def opL (k : Nat) : Int := opLevels.getD k 0
def opF (k : Nat) : Nat := opFuncs.getD k 0
theorem opCells_at : ∀ k, k < 18 → opCells[k * 3]? = some (.string (opT k)) ∧ opCells[k * 3 + 1]? = some (.int .i64 (opL k)) ∧ opCells[k * 3 + 2]? = some (.func (.func (opF k)) #[] #[]) := by
  intro k hk
  rcases k with _|_|_|_|_|_|_|_|_|_|_|_|_|_|_|_|_|_|k <;> first | exact ⟨rfl, rfl, rfl⟩ | omega
/-- Which operation a text is. -/
def opIdx (l : List UInt8) : Option Nat := opTexts.findIdx? (· == l)
def opV (l : List UInt8) : Value := match opIdx l with
  | some k => .agg #[.string (opT k), .int .i64 (opL k), .func (.func (opF k)) #[] #[]]
  | none => .agg #[.string ⟨#[]⟩, .int .i64 0, .nilFunc]
def NotYet (k : Nat) (l : List UInt8) : Prop := ∀ j, j < k → opTexts.getD j [] ≠ l

theorem opT_toList (k : Nat) : (opT k).toList = opTexts.getD k [] := by rw [ByteArray.toList_eq]; rfl
theorem opIdx_some {k : Nat} {l : List UInt8} (hk : k < 18) (h : (opT k).toList = l) : opIdx l = some k := by
  rw [opT_toList] at h
  subst h
  rcases k with _|_|_|_|_|_|_|_|_|_|_|_|_|_|_|_|_|_|k <;> first | rfl | omega
theorem opIdx_none {l : List UInt8} (hn : NotYet 18 l) : opIdx l = none := by
  unfold opIdx
  rw [List.findIdx?_eq_none_iff]
  intro x hx
  obtain ⟨j, hj, rfl⟩ := List.getElem_of_mem hx
  have := hn j hj
  rw [List.getD_eq_getElem?_getD, List.getElem?_eq_getElem hj] at this
  simp only [Option.getD_some] at this
  simpa using this
theorem opIdx_inv {k : Nat} {l : List UInt8} (h : opIdx l = some k) : k < 18 ∧ l = opTexts.getD k [] := by
  unfold opIdx at h
  rw [List.findIdx?_eq_some_iff_getElem] at h
  obtain ⟨hk, h1, _⟩ := h
  refine ⟨hk, ?_⟩
  rw [List.getD_eq_getElem?_getD, List.getElem?_eq_getElem hk]
  simp only [Option.getD_some]
  simpa using (beq_iff_eq.1 h1).symm

set_option maxHeartbeats 4000000 in
set_option maxRecDepth 100000 in
theorem find_calls (s : ByteArray) (w : World) : Calls Tryd.prog 25 #[.string s] w fun e w' => e = .returned (.tuple #[opV s.toList, .bool (opIdx s.toList).isSome]) ∧ Below w.heap.size w w' := by
  have hu47 := Tryd.underlying47
  go_enter Tryd.func25, Tryd.ntmps25
  go_wp2_with (go_at_call 28; refine (all_calls _).mono ?_; rintro e w' ⟨rfl, rfl⟩)
  go_loopw [8] (fun i wr => ∃ k : Nat, k ≤ 18 ∧ i = .int .i64 k ∧ NotYet k s.toList ∧ wr.heap[w.heap.size]? = some (.cells #[.string ⟨#[]⟩, .int .i64 0, .nilFunc] 47 (0, 0)) ∧ wr.heap[w.heap.size + 1]? = some (.cells opCells 47 (0, 0)) ∧ Below w.heap.size w wr) (fun i _ => 18 - (intOf i).toNat)
  case atStart => exact ⟨0, by omega, rfl, fun j hj => by omega, blk_alloc (blk_new _ _) _, by have := blk_new (w.alloc (.cells #[.string ⟨#[]⟩, .int .i64 0, .nilFunc] 47)) (.cells opCells 47); simpa using this, ((Below.refl _ _).alloc (Nat.le_refl _) _).alloc (by simp) _⟩
  case round =>
    obtain ⟨k, hk, rfl, hn, h0, h1, hB⟩ := hrel
    have d0 := blk_cell h0 0
    have d1 := blk_cell h0 1
    have d2 := blk_cell h0 2
    have f0 := blk_frozen h0 0
    have f1 := blk_frozen h0 1
    have f2 := blk_frozen h0 2
    simp at d0 d1 d2
    have hz := blk_lt h0
    have hz1 := blk_lt h1
    have H0 := Lib.hid h0
    have H1 := Lib.hid h1
    have HB := Lib.hid hB
    by_cases hlt : k < 18
    · obtain ⟨e0, e1, e2⟩ := opCells_at k hlt
      have c0 := (blk_cell h1 (k * 3)).trans e0
      have c1 := (blk_cell h1 (k * 3 + 1)).trans e1
      have c2 := (blk_cell h1 (k * 3 + 2)).trans e2
      clear e0 e1 e2 h1 h0 hB
      by_cases ht : (opT k).toList = s.toList
      · have HT := Lib.hid ht
        have hb : ((opT k).toList == s.toList) = true := beq_iff_eq.2 ht
        clear ht
        go_wp2
        refine bodyPost_ret (results_ct rfl _ _ w.heap.size 47 #[.string (opT k), .int .i64 (opL k), .func (.func (opF k)) #[] #[]] (0, 0) _ rfl ?_ Tryd.underlying47 rfl (by kernel_rfl)) rfl ⟨?_, ?_⟩
        · exact blk_alloc (blk_put (blk_put (blk_put H0.out 0 _ rfl) 1 _ rfl) 2 _ rfl) _
        · unfold opV
          rw [opIdx_some hlt HT.out]
          rfl
        · exact (((HB.out.setCell (by simp) _).setCell (by simp) _).setCell (by simp) _).alloc (by simp; omega) _
      · have HT := Lib.hid ht
        have hb : ((opT k).toList == s.toList) = false := beq_eq_false_iff_ne.2 ht
        clear ht
        go_wp2
        go_roundw
        case rel =>
          refine ⟨k + 1, by omega, by go_num, ?_, blk_alloc H0.out _, blk_alloc H1.out _, HB.out.alloc (by omega) _⟩
          intro j hj
          by_cases e : j = k
          · subst e
            rw [← opT_toList]
            exact HT.out
          · exact hn j (by omega)
        case measure => simp [intOf]; omega
    · have hk18 : k = 18 := by omega
      have HK := Lib.hid hk18
      clear h1 h0 hB hk18
      go_wp2
      refine bodyPost_ret (results_ct rfl _ _ w.heap.size 47 #[.string ⟨#[]⟩, .int .i64 0, .nilFunc] (0, 0) _ rfl ?_ Tryd.underlying47 rfl (by kernel_rfl)) rfl ⟨?_, ?_⟩
      · exact blk_put (blk_put (blk_put H0.out 0 _ rfl) 1 _ rfl) 2 _ rfl
      · unfold opV
        rw [opIdx_none (by have := hn; rw [HK.out] at this; exact this)]
        rfl
      · exact ((HB.out.setCell (by simp) _).setCell (by simp) _).setCell (by simp) _

def word_Level.f (a0 : ByteArray) : Option Int := some (match opIdx a0.toList with | some k => opL k | none => 0)
set_option maxHeartbeats 4000000 in
set_option maxRecDepth 100000 in
theorem word_Level.calls (a0 : ByteArray) (r : Int) (w : World) (h : word_Level.f a0 = some r) :
    Calls Tryd.prog 20 #[.string a0] w fun e w' => e = .returned (.int .i64 r) ∧ Below w.heap.size w w' := by
  obtain rfl := Option.some.inj h
  have hu47 := Tryd.underlying47
  cases hi : opIdx a0.toList with
  | none =>
    have hv : opV a0.toList = .agg #[.string ⟨#[]⟩, .int .i64 0, .nilFunc] := by unfold opV; rw [hi]
    have hf := find_calls a0
    rw [hv, hi] at hf
    have HF := Lib.hid hf
    clear hf hv hi
    go_enter Tryd.func20, Tryd.ntmps20
    go_wp2_with (go_at_call 25; refine (HF.out _).mono ?_; rintro e w1 ⟨rfl, hb⟩)
    go_ret
    exact ⟨rfl, by repeat (first | exact hb | apply below_alloc)⟩
  | some k =>
    have hv : opV a0.toList = .agg #[.string (opT k), .int .i64 (opL k), .func (.func (opF k)) #[] #[]] := by unfold opV; rw [hi]
    have hf := find_calls a0
    rw [hv, hi] at hf
    have HF := Lib.hid hf
    clear hf hv hi
    go_enter Tryd.func20, Tryd.ntmps20
    go_wp2_with (go_at_call 25; refine (HF.out _).mono ?_; rintro e w1 ⟨rfl, hb⟩)
    go_ret
    exact ⟨rfl, by repeat (first | exact hb | apply below_alloc)⟩

-- THE CASES
end Go.Proofs.YtlkabncoaijepaaDoor.X
