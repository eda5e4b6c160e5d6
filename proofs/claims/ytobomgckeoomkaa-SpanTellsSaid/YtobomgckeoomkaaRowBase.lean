/- What the arguments of a law are, opened and shut. -/
import Derived.Test.YtobomgckeoomkaaImSym
import Derived.Test.YtobomgckeoomkaaRows
import Derived.Stop.Joined
import Derived.WalkKit
import Derived.ProofKit
import Derived.OpenShut
import Derived.ChangeOld
import Derived.Below
import Derived.Carry
import Derived.Lib.SmallJoins
set_option maxRecDepth 100000
set_option linter.unusedVariables false
namespace Go.Proofs.Ytobomgckeoomkaa
open Go.ChangeShapes Go.WideShapes Go.ChangeAt Go.RowKit Go.Im
theorem array5 {α : Type} {cs : Array α} (h : cs.size = 5) : ∃ c0 c1 c2 c3 c4, cs = #[c0, c1, c2, c3, c4] := by
  obtain ⟨l⟩ := cs
  match l, h with
  | [c0, c1, c2, c3, c4], _ => exact ⟨c0, c1, c2, c3, c4, rfl⟩
theorem c25 : Try.prog.cellsOf 25 = 5 := by kernel_rfl
theorem c23 : Try.prog.cellsOf 23 = 2 := by kernel_rfl
theorem c2 : Try.prog.cellsOf 2 = 1 := by kernel_rfl
theorem c4 : Try.prog.cellsOf 4 = 1 := by kernel_rfl
theorem c5 : Try.prog.cellsOf 5 = 1 := by kernel_rfl
theorem wf_i64 {n : Int} (h : (Lit.int .i64 n).wf = true) : inK .i64 n = true := by
  have h' : (decide ((-9223372036854775808 : Int) ≤ n) && decide (n ≤ (9223372036854775807 : Int))) = true := h
  exact h'
theorem wf_u8 {n : Int} (h : (Lit.int .u8 n).wf = true) : inK .u8 n = true := by
  have h' : (decide ((0 : Int) ≤ n) && decide (n ≤ (255 : Int))) = true := h
  exact h'
theorem wf_u64 {n : Int} (h : (Lit.int .u64 n).wf = true) : inK .u64 n = true := by
  have h' : (decide ((0 : Int) ≤ n) && decide (n ≤ (18446744073709551615 : Int))) = true := h
  exact h'
theorem open_range {H : Type} {enc : TypeId × Value → H} {w : World} {base b0 : Nat} {spare : Nat → Bool} {held : Bool} {r : Reach} {v : Value} {d : DataW H} {p : List MemPlace} (hv : Value.okWide Try.prog w r b0 25 v) (h : DataW.Trod enc Try.prog w base spare held 25 v d p) :
    ∃ a b c e f, v = .agg #[.int .i64 a, .int .i64 b, .bool c, .int .u8 e, .int .u8 f] ∧ p = [] ∧ inK .i64 a = true ∧ inK .i64 b = true ∧ inK .u8 e = true ∧ inK .u8 f = true := by
  obtain ⟨cs, rfl, hsz⟩ := okWide_struct Try.underlying25 hv
  obtain ⟨c0, c1, c2', c3, c4', rfl⟩ := array5 (hsz.trans c25)
  obtain ⟨fuel, hf⟩ := h
  obtain ⟨y0, y1, y2, y3, n, hx, _, h0, h1, h2, h3⟩ := Joins.trod_struct4 Try.underlying25 hf
  simp only [Value.cells, c23, c4, c5, List.drop_zero, List.take_succ_cons, List.take_zero, List.drop_succ_cons] at h0 h1 h2 h3
  obtain ⟨z0, z1, m, hz, _, g0, g1⟩ := trod_struct2 Try.underlying23 h0
  simp only [c2, List.drop_zero, List.take_succ_cons, List.take_zero, List.drop_succ_cons] at g0 g1
  obtain ⟨a, ha, rfl, wa⟩ := DataW.trod_int Try.underlying2 g0
  obtain ⟨b, hb, rfl, wb⟩ := DataW.trod_int Try.underlying2 g1
  obtain ⟨c, hc, rfl⟩ := DataW.trod_bool Try.underlying4 h1
  obtain ⟨e, he, rfl, we⟩ := DataW.trod_int Try.underlying5 h2
  obtain ⟨f, hf', rfl, wf⟩ := DataW.trod_int Try.underlying5 h3
  simp only [List.cons.injEq, and_true] at ha hb hc he hf'
  subst ha hb hc he hf' hz
  cases hx
  exact ⟨a, b, c, e, f, rfl, rfl, wf_i64 wa, wf_i64 wb, wf_u8 we, wf_u8 wf⟩
theorem ir_range {h : Array Obj} {a b e f : Int} {c : Bool} (ha : inK .i64 a = true) (hb : inK .i64 b = true) (he : inK .u8 e = true) (hf : inK .u8 f = true) :
    IR h (fun _ => False) (.agg [.int true .i64 a, .int true .i64 b, .bool true c, .int true .u8 e, .int true .u8 f]) (.agg #[.int .i64 a, .int .i64 b, .bool c, .int .u8 e, .int .u8 f]) := by
  refine .agg _ _ rfl fun j v x hj hx => ?_
  match j with
  | 0 => simp at hj hx; subst hj hx; exact .int _ _ _ ha
  | 1 => simp at hj hx; subst hj hx; exact .int _ _ _ hb
  | 2 => simp at hj hx; subst hj hx; exact .bool _ _
  | 3 => simp at hj hx; subst hj hx; exact .int _ _ _ he
  | 4 => simp at hj hx; subst hj hx; exact .int _ _ _ hf
  | j + 5 => simp at hj
theorem Try.own : ownKnob Try.prog.godebug = none := by kernel_rfl
theorem Try.laidOut : laidOutB Try.prog = true := by kernel_rfl
end Go.Proofs.Ytobomgckeoomkaa
