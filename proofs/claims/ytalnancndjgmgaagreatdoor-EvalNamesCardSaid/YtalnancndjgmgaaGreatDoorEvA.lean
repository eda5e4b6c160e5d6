/- Eval: an environment of few names; what is got of it. -/
import Derived.Test.YtalnancndjgmgaaGreatDoorMm0
namespace Go.Im
set_option linter.unusedVariables false
set_option maxRecDepth 100000
def envI (P : Program) (A : FuncId → Cx) (f : FuncId) (orc : Orc) : Env := { P, cx := A f, call := icall P A (fun _ _ _ _ _ => False) orc 300, sim := Sim P, loop := SimR P, code := SimC P }
theorem envI_ok {P : Program} (hm : PGood P) {A : FuncId → Cx} {f : FuncId} {orc : Orc} (ho : OrcOk P orc) : EnvOk (envI P A f orc) :=
  ⟨hm, fun _ _ _ _ _ h => icall_ok hm (fun _ _ _ _ _ h => h.elim) ho 300 _ _ _ _ _ h, fun _ _ _ _ _ h => h, fun _ _ _ _ _ _ h => h, fun _ _ _ _ _ _ h => h⟩
theorem sim_icall {f : FuncId} {a : List V} {H : Heap} {v : V} {H' : Heap} (h : icall Go.Proofs.Tryz.prog imA (fun _ _ _ _ _ => False) memT 300 f a H = some (v, H')) : Sim Go.Proofs.Tryz.prog f a H v H' :=
  icall_ok hmixed (fun _ _ _ _ _ h => h.elim) memT_ok 300 f a H v H' h
noncomputable abbrev I (f : FuncId) : Env := envI Go.Proofs.Tryz.prog imA f memT
theorem sim_I {f : FuncId} {args : List V} {H : Heap} {ps : List Ev} {ob : Prop} {v : V} {H' : Heap} (h : run (I f) f args H ps = some (ob, v, H')) (ho : ob) : Sim Go.Proofs.Tryz.prog f args H v H' :=
  sim_run (E := I f) (envI_ok hmixed memT_ok) h ho
def tx (s : String) : V := .str false s.toUTF8
abbrev z64 : V := .int false .i64 0
/-- What frame(false) is. -/
def frV : V := .agg [.str false (bsM [109, 97, 105, 110]), .isl false [.str false (bsM [112]), .str false (bsM [97])], .isl false [.agg [.str false (bsM [98]), .int false .i64 0], .agg [.str false (bsM [120, 115]), .int false .i64 3], .agg [.str false (bsM [121, 115]), .int false .i64 70], .agg [.str false (bsM [122, 115]), .int false .i64 (-4)]], .isl false []]
def nB (d : Bool) (es : List V) : Option Blk := some (Blk.mk es 1 false d none false (some 2))
/-- Its environment, of these arguments. -/
def evH (d : Bool) (p a : V) : Heap := [some (Blk.mk [.agg [.msl 1 0 6]] 1 false d (some 90) false none),
  some (Blk.mk [.agg [.str false (bsM [112]), .bool false false, .msl 2 0 1], .agg [.str false (bsM [97]), .bool false false, .msl 3 0 1], .agg [.str false (bsM [98]), .bool false false, .msl 4 0 1], .agg [.str false (bsM [120, 115]), .bool false true, .msl 5 0 3], .agg [.str false (bsM [121, 115]), .bool false true, .msl 6 0 64], .agg [.str false (bsM [122, 115]), .bool false false, .msl 7 0 1]] 3 false d none false (some 75)),
  nB d [p], nB d [a], nB d [z64], nB d [z64, z64, z64], nB d (List.replicate 64 z64), nB d [z64]]
theorem frame_sim : Sim Go.Proofs.Tryz.prog 10 [.bool false false] [] frV [] := sim_icall (by kernel_rfl)
theorem new0 (ys : List V) (h : inK .i64 (ys.length : Int) = true) (h0 : decide ((0 : Int) < (ys.length : Int)) = false) (h1 : decide ((1 : Int) < (ys.length : Int)) = false) : Sim Go.Proofs.Tryz.prog 11 [frV, .isl true ys] [] (.mptr 0 0 0) (evH true z64 z64) :=
  sim_I (ps := [.br true, .br false, .br true, .br false]) (show run (I _) _ _ _ _ = some ((((True ∧ inK .i64 (ys.length : Int) = true) ∧ decide ((0 : Int) < (ys.length : Int)) = false) ∧ inK .i64 (ys.length : Int) = true) ∧ decide ((1 : Int) < (ys.length : Int)) = false, .mptr 0 0 0, evH true z64 z64) by kernel_rfl) ⟨⟨⟨⟨trivial, h⟩, h0⟩, h⟩, h1⟩
theorem new1 (ys : List V) (p : Int) (h : inK .i64 (ys.length : Int) = true) (h0 : decide ((0 : Int) < (ys.length : Int)) = true) (h1 : decide ((1 : Int) < (ys.length : Int)) = false) (r0 : inRange 0 ys.length = true) (e0 : ys[(0 : Int).toNat]? = some (.int true .i64 p)) :
    Sim Go.Proofs.Tryz.prog 11 [frV, .isl true ys] [] (.mptr 0 0 0) (evH true (.int true .i64 p) z64) :=
  sim_I (ps := [.br true, .br true, .br true, .el (.int true .i64 p), .br true, .br false]) (show run (I _) _ _ _ _ = some ((((((True ∧ inK .i64 (ys.length : Int) = true) ∧ decide ((0 : Int) < (ys.length : Int)) = true) ∧ inRange 0 ys.length = true) ∧ ys[(0 : Int).toNat]? = some (.int true .i64 p)) ∧ inK .i64 (ys.length : Int) = true) ∧ decide ((1 : Int) < (ys.length : Int)) = false, .mptr 0 0 0, evH true (.int true .i64 p) z64) by kernel_rfl) ⟨⟨⟨⟨⟨⟨trivial, h⟩, h0⟩, r0⟩, e0⟩, h⟩, h1⟩
theorem new2 (ys : List V) (p a : Int) (h : inK .i64 (ys.length : Int) = true) (h0 : decide ((0 : Int) < (ys.length : Int)) = true) (h1 : decide ((1 : Int) < (ys.length : Int)) = true) (r0 : inRange 0 ys.length = true) (e0 : ys[(0 : Int).toNat]? = some (.int true .i64 p))
    (r1 : inRange 1 ys.length = true) (e1 : ys[(1 : Int).toNat]? = some (.int true .i64 a)) :
    Sim Go.Proofs.Tryz.prog 11 [frV, .isl true ys] [] (.mptr 0 0 0) (evH true (.int true .i64 p) (.int true .i64 a)) :=
  sim_I (ps := [.br true, .br true, .br true, .el (.int true .i64 p), .br true, .br true, .br true, .el (.int true .i64 a)]) (show run (I _) _ _ _ _ = some ((((((((True ∧ inK .i64 (ys.length : Int) = true) ∧ decide ((0 : Int) < (ys.length : Int)) = true) ∧ inRange 0 ys.length = true) ∧ ys[(0 : Int).toNat]? = some (.int true .i64 p)) ∧ inK .i64 (ys.length : Int) = true) ∧ decide ((1 : Int) < (ys.length : Int)) = true) ∧ inRange 1 ys.length = true) ∧ ys[(1 : Int).toNat]? = some (.int true .i64 a), .mptr 0 0 0, evH true (.int true .i64 p) (.int true .i64 a)) by kernel_rfl) ⟨⟨⟨⟨⟨⟨⟨⟨trivial, h⟩, h0⟩, r0⟩, e0⟩, h⟩, h1⟩, r1⟩, e1⟩
end Go.Im
