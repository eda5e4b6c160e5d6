import Derived.Test.YtlkabncoaijepaaDoorExtWord
import Derived.Test.YtlkabncoaijepaaDoorExtBin
import Derived.Maps.AppendAt
import Derived.OwnWalk
import Derived.Laws.MakeOwn
import Derived.Laws.OwnMore
import Derived.Deep.OwnRows
namespace Go.Proofs.YtlkabncoaijepaaDoor.X
open Go.RowKit Go.Proofs.YtlkabncoaijepaaDoorW.PrintWords Go.Proofs.YtlkabncoaijepaaDoorW.PrintLast Go.Proofs.YtlkabncoaijepaaDoorW.PrintMore
set_option linter.unusedVariables false

def opList : List ByteArray := (List.range 18).map opT
def word_Ops.f : Option (List ByteArray) := some opList
theorem opList_take (k : Nat) (h : k < 18) : opList.take (k + 1) = opList.take k ++ [opT k] := by
  have hl : k < opList.length := by simpa [opList] using h
  rw [List.take_succ_eq_append_getElem hl]
  congr 2
  simp [opList]
theorem infoStr : (Tryd.prog.info? 9).map (fun i => (i.zero, i.size, i.bytes)) = some (some (.string ⟨#[]⟩), 1, 16) := by kernel_rfl
theorem opList_take_len (k : Nat) (h : k ≤ 18) : (opList.take k).length = k := by
  have hl : opList.length = 18 := by decide
  rw [List.length_take]; omega

set_option maxHeartbeats 4000000 in
set_option maxRecDepth 100000 in
theorem word_Ops.calls (r : List ByteArray) (w : World) (h : word_Ops.f = some r) :
    Calls Tryd.prog 18 #[] w fun e w' => ∃ v0_ : Value, e = .returned (v0_) ∧ Kd.R Kd.string 9 w' w.heap.size (fun _ => True) v0_ r ∧ Below w.heap.size w w' := by
  obtain rfl := Option.some.inj h
  have hu47 := Tryd.underlying47
  have hi9 := infoStr
  have HI9 := Lib.hid hi9
  clear hi9
  go_enter Tryd.func18, Tryd.ntmps18
  go_wp2_with (go_at_call 28; refine (all_calls _).mono ?_; rintro e w' ⟨rfl, rfl⟩)
  go_loopw [1, 6] (fun v i wr => ∃ k : Nat, k ≤ 18 ∧ i = .int .i64 k ∧ Aside0 (Kd.R Kd.string 9 wr w.heap.size (fun k_ => k_ ≠ w.heap.size) v (opList.take k)) ∧ wr.heap[w.heap.size]? = some (.cells opCells 47 (0, 0)) ∧ Below w.heap.size w wr) (fun _ i _ => 18 - (intOf i).toNat)
  case atStart => exact ⟨0, by omega, rfl, ⟨Kd.R_nil _ _ _ _ _⟩, blk_new _ _, (Below.refl _ _).alloc (Nat.le_refl _) _⟩
  case round =>
    obtain ⟨k, hk, rfl, HO, h1, hB⟩ := hrel
    have hz1 := blk_lt h1
    have H1 := Lib.hid h1
    have HB := Lib.hid hB
    by_cases hlt : k < 18
    · obtain ⟨e0, e1, e2⟩ := opCells_at k hlt
      have c0 := (blk_cell h1 (k * 3)).trans e0
      have c1 := (blk_cell h1 (k * 3 + 1)).trans e1
      have c2 := (blk_cell h1 (k * 3 + 2)).trans e2
      have HL := Lib.hid (opList_take_len k hk)
      have HT := Lib.hid (opList_take k hlt)
      clear e0 e1 e2 h1 hB
      go_wp2_with ((with_reducible refine gate_builtin (b := .append) (xs := #[.tmp 10, .tmp 13]) rfl ?_); at_builtin; refine Kd.R_append Kd.string (w0 := w) w.heap.size rfl (.tmp 10) (.tmp 13) 32 9 (.string ⟨#[]⟩) 16 rfl Tryd.underlying32 HI9.out rfl (by decide) (by omega) _ (opList.take k) (opT k) [.string (opT k)] (fun k_ => k_ ≠ w.heap.size) (fun _ => False) rfl ?aX ?aP (fun _ hk => hk.elim) ?aF ?aO ?aB ?aS ?aL ?_; (case aX => simp [Act.eval]); (case aP => exact rfl); (case aF => intro k_ hk_; simp at hk_; omega); (case aO => exact Kd.R_below HO.out ((Below.refl _ _).alloc (Nat.le_refl _) _)); (case aB => exact HB.out.alloc (by omega) _); (case aS => simp; omega); (case aL => rw [HL.out]; omega); intro v1 w1 ho hb hg hat; rw [← HT.out] at ho; (have Ho := Aside0.mk ho); (have hc1 := blk_grown (blk_alloc H1.out _) hg (fun e_ => HO.out.1 _ e_.symm rfl)); (have HC1 := Lib.hid hc1); (have HB1 := Lib.hid hb); clear ho hc1 hb hg hat)
      go_roundw
      case rel => exact ⟨k + 1, by omega, by go_num, Ho, HC1.out, HB1.out⟩
      case measure => simp [intOf]; omega
    · have hk18 : k = 18 := by omega
      have HK := Lib.hid hk18
      clear h1 hB hk18
      go_wp2
      go_ret
      refine ⟨_, rfl, ?_, HB.out⟩
      have ho := Kd.R_mono HO.out (ok' := fun _ => True) (fun _ _ => trivial)
      rw [HK.out] at ho
      exact ho
end Go.Proofs.YtlkabncoaijepaaDoor.X
