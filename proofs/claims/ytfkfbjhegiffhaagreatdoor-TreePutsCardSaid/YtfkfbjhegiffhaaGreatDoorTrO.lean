/- The openings of what is given (by wip/gen). -/
import Derived.Test.YtfkfbjhegiffhaaGreatDoorTrAT
import Derived.Test.YtfkfbjhegiffhaaGreatDoorRowG
set_option maxRecDepth 100000
set_option linter.unusedVariables false
namespace Go.Im
open Go.Proofs
open Go.ChangeShapes Go.WideShapes Go.ChangeAt Go.RowKit
def TreeDecl.gd {H : Type} (a : TreeDecl) (d : DataW H) : Prop := ∃ ds, d = .agg ds ∧ (∃ y, ds[0]? = some y ∧ (fun s d => s.size ≤ maxLen ∧ d = .lit (.string s.data.toList)) (TreeDecl.Name a) y) ∧ (∃ y, ds[1]? = some y ∧ (fun a _ => inK .i64 a = true) (TreeDecl.Size a) y)
theorem rd_TreeDecl {H : Type} {enc : TypeId × Value → H} {w : World} {base : Nat} {spare : Nat → Bool} {held : Bool} (n : Nat) : Rd enc Tryz.prog w base spare held n 85 TreeDecl.v TreeDecl.gd := by
  induction n using Nat.strongRecOn with
  | _ n ih =>
  intro cs x h
  obtain ⟨ys, m, hm, hl, hx, hyl, hf⟩ := rd_fields Tryz.underlying85 h
  obtain ⟨y0, hy0, t0⟩ := hf 0 _ rfl
  obtain ⟨a0, g0, i0⟩ := (show Rd enc Tryz.prog w base spare held m 9 (V.str true) (fun s d => s.size ≤ maxLen ∧ d = .lit (.string s.data.toList)) from (rd_str Tryz.underlying9)) _ _ t0
  obtain ⟨y1, hy1, t1⟩ := hf 1 _ rfl
  obtain ⟨a1, g1, i1⟩ := (show Rd enc Tryz.prog w base spare held m 3 (V.int true .i64) (fun a _ => inK .i64 a = true) from (rd_int Tryz.underlying3 (fun _ h => wf_i64 h))) _ _ t1
  refine ⟨⟨a0, a1⟩, ⟨_, hx, ⟨_, by rw [List.getElem?_map, hy0]; rfl, g0⟩, ⟨_, by rw [List.getElem?_map, hy1]; rfl, g1⟩⟩, ?_⟩
  rw [TreeDecl.v_eq]
  exact IRs.step (o := 0) (o' := 1) (by kernel_rfl) i0 (IRs.step (o := 1) (o' := 2) (by kernel_rfl) i1 (IRs.fin (hl.trans (by kernel_rfl))))
def TreeExpr.gd {H : Type} (a : TreeExpr) (d : DataW H) : Prop := True
theorem rd_TreeExpr {H : Type} {enc : TypeId × Value → H} {w : World} {base : Nat} {spare : Nat → Bool} {held : Bool} (n : Nat) : Rd enc Tryz.prog w base spare held n 40 TreeExpr.v TreeExpr.gd := by
  induction n using Nat.strongRecOn with
  | _ n ih =>
  intro cs x h
  obtain ⟨ys, m, hm, hl, hx, hyl, hf⟩ := rd_fields Tryz.underlying40 h
  obtain ⟨y0, hy0, t0⟩ := hf 0 _ rfl
  obtain ⟨a0, g0, i0⟩ := (show Rd enc Tryz.prog w base spare held m 3 (V.int true .i64) (fun a _ => inK .i64 a = true) from (rd_int Tryz.underlying3 (fun _ h => wf_i64 h))) _ _ t0
  obtain ⟨y1, hy1, t1⟩ := hf 1 _ rfl
  obtain ⟨a1, g1, i1⟩ := (show Rd enc Tryz.prog w base spare held m 9 (V.str true) (fun s d => s.size ≤ maxLen ∧ d = .lit (.string s.data.toList)) from (rd_str Tryz.underlying9)) _ _ t1
  obtain ⟨y2, hy2, t2⟩ := hf 2 _ rfl
  obtain ⟨a2, g2, i2⟩ := (show Rd enc Tryz.prog w base spare held m 2 (V.int true .i64) (fun a _ => inK .i64 a = true) from (rd_int Tryz.underlying2 (fun _ h => wf_i64 h))) _ _ t2
  obtain ⟨y3, hy3, t3⟩ := hf 3 _ rfl
  obtain ⟨a3, g3, i3⟩ := (show Rd enc Tryz.prog w base spare held m 9 (V.str true) (fun s d => s.size ≤ maxLen ∧ d = .lit (.string s.data.toList)) from (rd_str Tryz.underlying9)) _ _ t3
  obtain ⟨y4, hy4, t4⟩ := hf 4 _ rfl
  obtain ⟨a4, g4, i4⟩ := (show Rd enc Tryz.prog w base spare held m 38 (lvT TreeExpr.v) (goodL (fun _ _ => True)) from (rd_slice Tryz.underlying38 (of_decide_eq_true (by kernel_rfl)) (fun m' hm' => (ih _ (by omega))))) _ _ t4
  refine ⟨⟨a0, a1, a2, a3, a4⟩, trivial, ?_⟩
  rw [TreeExpr.v_eq]
  exact IRs.step (o := 0) (o' := 1) (by kernel_rfl) i0 (IRs.step (o := 1) (o' := 2) (by kernel_rfl) i1 (IRs.step (o := 2) (o' := 3) (by kernel_rfl) i2 (IRs.step (o := 3) (o' := 4) (by kernel_rfl) i3 (IRs.step (o := 4) (o' := 5) (by kernel_rfl) i4 (IRs.fin (hl.trans (by kernel_rfl)))))))
def TreeStmt.gd {H : Type} (a : TreeStmt) (d : DataW H) : Prop := True
theorem rd_TreeStmt {H : Type} {enc : TypeId × Value → H} {w : World} {base : Nat} {spare : Nat → Bool} {held : Bool} (n : Nat) : Rd enc Tryz.prog w base spare held n 83 TreeStmt.v TreeStmt.gd := by
  induction n using Nat.strongRecOn with
  | _ n ih =>
  intro cs x h
  obtain ⟨ys, m, hm, hl, hx, hyl, hf⟩ := rd_fields Tryz.underlying83 h
  obtain ⟨y0, hy0, t0⟩ := hf 0 _ rfl
  obtain ⟨a0, g0, i0⟩ := (show Rd enc Tryz.prog w base spare held m 3 (V.int true .i64) (fun a _ => inK .i64 a = true) from (rd_int Tryz.underlying3 (fun _ h => wf_i64 h))) _ _ t0
  obtain ⟨y1, hy1, t1⟩ := hf 1 _ rfl
  obtain ⟨a1, g1, i1⟩ := (show Rd enc Tryz.prog w base spare held m 3 (V.int true .i64) (fun a _ => inK .i64 a = true) from (rd_int Tryz.underlying3 (fun _ h => wf_i64 h))) _ _ t1
  obtain ⟨y2, hy2, t2⟩ := hf 2 _ rfl
  obtain ⟨a2, g2, i2⟩ := (show Rd enc Tryz.prog w base spare held m 9 (V.str true) (fun s d => s.size ≤ maxLen ∧ d = .lit (.string s.data.toList)) from (rd_str Tryz.underlying9)) _ _ t2
  obtain ⟨y3, hy3, t3⟩ := hf 3 _ rfl
  obtain ⟨a3, g3, i3⟩ := (show Rd enc Tryz.prog w base spare held m 9 (V.str true) (fun s d => s.size ≤ maxLen ∧ d = .lit (.string s.data.toList)) from (rd_str Tryz.underlying9)) _ _ t3
  obtain ⟨y4, hy4, t4⟩ := hf 4 _ rfl
  obtain ⟨a4, g4, i4⟩ := (show Rd enc Tryz.prog w base spare held m 38 (lvT TreeExpr.v) (goodL TreeExpr.gd) from (rd_slice Tryz.underlying38 (of_decide_eq_true (by kernel_rfl)) (fun m' hm' => (rd_TreeExpr _)))) _ _ t4
  obtain ⟨y5, hy5, t5⟩ := hf 5 _ rfl
  obtain ⟨a5, g5, i5⟩ := (show Rd enc Tryz.prog w base spare held m 48 (lvT TreeStmt.v) (goodL (fun _ _ => True)) from (rd_slice Tryz.underlying48 (of_decide_eq_true (by kernel_rfl)) (fun m' hm' => (ih _ (by omega))))) _ _ t5
  obtain ⟨y6, hy6, t6⟩ := hf 6 _ rfl
  obtain ⟨a6, g6, i6⟩ := (show Rd enc Tryz.prog w base spare held m 48 (lvT TreeStmt.v) (goodL (fun _ _ => True)) from (rd_slice Tryz.underlying48 (of_decide_eq_true (by kernel_rfl)) (fun m' hm' => (ih _ (by omega))))) _ _ t6
  refine ⟨⟨a0, a1, a2, a3, a4, a5, a6⟩, trivial, ?_⟩
  rw [TreeStmt.v_eq]
  exact IRs.step (o := 0) (o' := 1) (by kernel_rfl) i0 (IRs.step (o := 1) (o' := 2) (by kernel_rfl) i1 (IRs.step (o := 2) (o' := 3) (by kernel_rfl) i2 (IRs.step (o := 3) (o' := 4) (by kernel_rfl) i3 (IRs.step (o := 4) (o' := 5) (by kernel_rfl) i4 (IRs.step (o := 5) (o' := 6) (by kernel_rfl) i5 (IRs.step (o := 6) (o' := 7) (by kernel_rfl) i6 (IRs.fin (hl.trans (by kernel_rfl)))))))))
def TreeFunc.gd {H : Type} (a : TreeFunc) (d : DataW H) : Prop := ∃ ds, d = .agg ds ∧ (∃ y, ds[0]? = some y ∧ (fun s d => s.size ≤ maxLen ∧ d = .lit (.string s.data.toList)) (TreeFunc.Name a) y) ∧ (∃ y, ds[1]? = some y ∧ (goodL (fun s d => s.size ≤ maxLen ∧ d = .lit (.string s.data.toList))) (TreeFunc.Params a) y) ∧ (∃ y, ds[2]? = some y ∧ (goodL TreeDecl.gd) (TreeFunc.Vars a) y) ∧ (∃ y, ds[3]? = some y ∧ (goodL TreeStmt.gd) (TreeFunc.Body a) y)
theorem rd_TreeFunc {H : Type} {enc : TypeId × Value → H} {w : World} {base : Nat} {spare : Nat → Bool} {held : Bool} (n : Nat) : Rd enc Tryz.prog w base spare held n 50 TreeFunc.v TreeFunc.gd := by
  induction n using Nat.strongRecOn with
  | _ n ih =>
  intro cs x h
  obtain ⟨ys, m, hm, hl, hx, hyl, hf⟩ := rd_fields Tryz.underlying50 h
  obtain ⟨y0, hy0, t0⟩ := hf 0 _ rfl
  obtain ⟨a0, g0, i0⟩ := (show Rd enc Tryz.prog w base spare held m 9 (V.str true) (fun s d => s.size ≤ maxLen ∧ d = .lit (.string s.data.toList)) from (rd_str Tryz.underlying9)) _ _ t0
  obtain ⟨y1, hy1, t1⟩ := hf 1 _ rfl
  obtain ⟨a1, g1, i1⟩ := (show Rd enc Tryz.prog w base spare held m 35 (lvT (V.str true)) (goodL (fun s d => s.size ≤ maxLen ∧ d = .lit (.string s.data.toList))) from (rd_slice Tryz.underlying35 (of_decide_eq_true (by kernel_rfl)) (fun m' hm' => (rd_str Tryz.underlying9)))) _ _ t1
  obtain ⟨y2, hy2, t2⟩ := hf 2 _ rfl
  obtain ⟨a2, g2, i2⟩ := (show Rd enc Tryz.prog w base spare held m 47 (lvT TreeDecl.v) (goodL TreeDecl.gd) from (rd_slice Tryz.underlying47 (of_decide_eq_true (by kernel_rfl)) (fun m' hm' => (rd_TreeDecl _)))) _ _ t2
  obtain ⟨y3, hy3, t3⟩ := hf 3 _ rfl
  obtain ⟨a3, g3, i3⟩ := (show Rd enc Tryz.prog w base spare held m 48 (lvT TreeStmt.v) (goodL TreeStmt.gd) from (rd_slice Tryz.underlying48 (of_decide_eq_true (by kernel_rfl)) (fun m' hm' => (rd_TreeStmt _)))) _ _ t3
  refine ⟨⟨a0, a1, a2, a3⟩, ⟨_, hx, ⟨_, by rw [List.getElem?_map, hy0]; rfl, g0⟩, ⟨_, by rw [List.getElem?_map, hy1]; rfl, g1⟩, ⟨_, by rw [List.getElem?_map, hy2]; rfl, g2⟩, ⟨_, by rw [List.getElem?_map, hy3]; rfl, g3⟩⟩, ?_⟩
  rw [TreeFunc.v_eq]
  exact IRs.step (o := 0) (o' := 1) (by kernel_rfl) i0 (IRs.step (o := 1) (o' := 2) (by kernel_rfl) i1 (IRs.step (o := 2) (o' := 3) (by kernel_rfl) i2 (IRs.step (o := 3) (o' := 4) (by kernel_rfl) i3 (IRs.fin (hl.trans (by kernel_rfl))))))
def TreeProg.gd {H : Type} (a : TreeProg) (d : DataW H) : Prop := ∃ ds, d = .agg ds ∧ (∃ y, ds[0]? = some y ∧ (goodL TreeFunc.gd) (TreeProg.Funcs a) y)
theorem rd_TreeProg {H : Type} {enc : TypeId × Value → H} {w : World} {base : Nat} {spare : Nat → Bool} {held : Bool} (n : Nat) : Rd enc Tryz.prog w base spare held n 24 TreeProg.v TreeProg.gd := by
  induction n using Nat.strongRecOn with
  | _ n ih =>
  intro cs x h
  obtain ⟨ys, m, hm, hl, hx, hyl, hf⟩ := rd_fields Tryz.underlying24 h
  obtain ⟨y0, hy0, t0⟩ := hf 0 _ rfl
  obtain ⟨a0, g0, i0⟩ := (show Rd enc Tryz.prog w base spare held m 22 (lvT TreeFunc.v) (goodL TreeFunc.gd) from (rd_slice Tryz.underlying22 (of_decide_eq_true (by kernel_rfl)) (fun m' hm' => (rd_TreeFunc _)))) _ _ t0
  refine ⟨⟨a0⟩, ⟨_, hx, ⟨_, by rw [List.getElem?_map, hy0]; rfl, g0⟩⟩, ?_⟩
  rw [TreeProg.v_eq]
  exact IRs.step (o := 0) (o' := 1) (by kernel_rfl) i0 (IRs.fin (hl.trans (by kernel_rfl)))
def Law03Code.gd {H : Type} (a : Law03Code) (d : DataW H) : Prop := ∃ ds, d = .agg ds ∧ (∃ y, ds[0]? = some y ∧ TreeProg.gd (Law03Code.P a) y) ∧ (∃ y, ds[1]? = some y ∧ (fun _ _ => True) (Law03Code.Own a) y) ∧ (∃ y, ds[2]? = some y ∧ (goodL (fun _ _ => True)) (Law03Code.L a) y) ∧ (∃ y, ds[3]? = some y ∧ (goodL (fun _ _ => True)) (Law03Code.G a) y)
theorem rd_Law03Code {H : Type} {enc : TypeId × Value → H} {w : World} {base : Nat} {spare : Nat → Bool} {held : Bool} (n : Nat) : Rd enc Tryz.prog w base spare held n 27 Law03Code.v Law03Code.gd := by
  induction n using Nat.strongRecOn with
  | _ n ih =>
  intro cs x h
  obtain ⟨ys, m, hm, hl, hx, hyl, hf⟩ := rd_fields Tryz.underlying27 h
  obtain ⟨y0, hy0, t0⟩ := hf 0 _ rfl
  obtain ⟨a0, g0, i0⟩ := (show Rd enc Tryz.prog w base spare held m 24 TreeProg.v TreeProg.gd from (rd_TreeProg _)) _ _ t0
  obtain ⟨y1, hy1, t1⟩ := hf 1 _ rfl
  obtain ⟨a1, g1, i1⟩ := (show Rd enc Tryz.prog w base spare held m 4 (V.bool true) (fun _ _ => True) from (rd_bool Tryz.underlying4)) _ _ t1
  obtain ⟨y2, hy2, t2⟩ := hf 2 _ rfl
  obtain ⟨a2, g2, i2⟩ := (show Rd enc Tryz.prog w base spare held m 25 (lvT bV) (goodL (fun _ _ => True)) from (rd_slice Tryz.underlying25 (of_decide_eq_true (by kernel_rfl)) (fun m' hm' => (rd_byte Tryz.underlying5)))) _ _ t2
  obtain ⟨y3, hy3, t3⟩ := hf 3 _ rfl
  obtain ⟨a3, g3, i3⟩ := (show Rd enc Tryz.prog w base spare held m 25 (lvT bV) (goodL (fun _ _ => True)) from (rd_slice Tryz.underlying25 (of_decide_eq_true (by kernel_rfl)) (fun m' hm' => (rd_byte Tryz.underlying5)))) _ _ t3
  refine ⟨⟨a0, a1, a2, a3⟩, ⟨_, hx, ⟨_, by rw [List.getElem?_map, hy0]; rfl, g0⟩, ⟨_, by rw [List.getElem?_map, hy1]; rfl, g1⟩, ⟨_, by rw [List.getElem?_map, hy2]; rfl, g2⟩, ⟨_, by rw [List.getElem?_map, hy3]; rfl, g3⟩⟩, ?_⟩
  rw [Law03Code.v_eq]
  exact IRs.step (o := 0) (o' := 1) (by kernel_rfl) i0 (IRs.step (o := 1) (o' := 2) (by kernel_rfl) i1 (IRs.step (o := 2) (o' := 3) (by kernel_rfl) i2 (IRs.step (o := 3) (o' := 4) (by kernel_rfl) i3 (IRs.fin (hl.trans (by kernel_rfl))))))
end Go.Im
