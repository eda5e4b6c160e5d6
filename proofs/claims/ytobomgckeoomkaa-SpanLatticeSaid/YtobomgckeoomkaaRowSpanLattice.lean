/- SpanLattice: for every input the law answers true, and each argument reads behind the call as it read before. -/
import Derived.Test.YtobomgckeoomkaaSpLat
import Derived.Test.YtobomgckeoomkaaRows
import Derived.Stop.Joined
import Derived.WalkKit
import Derived.ProofKit
import Derived.OpenShut
import Derived.ChangeOld
import Derived.Below
import Derived.Carry
import Derived.Lib.SmallJoins
set_option maxRecDepth 100000
set_option linter.unusedVariables false
namespace Go.Proofs.Ytobomgckeoomkaa
open Go.ChangeShapes Go.WideShapes Go.ChangeAt Go.RowKit Go.Im
theorem array5 {α : Type} {cs : Array α} (h : cs.size = 5) : ∃ c0 c1 c2 c3 c4, cs = #[c0, c1, c2, c3, c4] := by
  obtain ⟨l⟩ := cs
  match l, h with
  | [c0, c1, c2, c3, c4], _ => exact ⟨c0, c1, c2, c3, c4, rfl⟩
theorem c25 : Try.prog.cellsOf 25 = 5 := by kernel_rfl
theorem c23 : Try.prog.cellsOf 23 = 2 := by kernel_rfl
theorem c2 : Try.prog.cellsOf 2 = 1 := by kernel_rfl
theorem c4 : Try.prog.cellsOf 4 = 1 := by kernel_rfl
theorem c5 : Try.prog.cellsOf 5 = 1 := by kernel_rfl
theorem wf_i64 {n : Int} (h : (Lit.int .i64 n).wf = true) : inK .i64 n = true := by
  have h' : (decide ((-9223372036854775808 : Int) ≤ n) && decide (n ≤ (9223372036854775807 : Int))) = true := h
  exact h'
theorem wf_u8 {n : Int} (h : (Lit.int .u8 n).wf = true) : inK .u8 n = true := by
  have h' : (decide ((0 : Int) ≤ n) && decide (n ≤ (255 : Int))) = true := h
  exact h'
theorem open_range {H : Type} {enc : TypeId × Value → H} {w : World} {base b0 : Nat} {spare : Nat → Bool} {held : Bool} {r : Reach} {v : Value} {d : DataW H} {p : List MemPlace} (hv : Value.okWide Try.prog w r b0 25 v) (h : DataW.Trod enc Try.prog w base spare held 25 v d p) :
    ∃ a b c e f, v = .agg #[.int .i64 a, .int .i64 b, .bool c, .int .u8 e, .int .u8 f] ∧ p = [] ∧ inK .i64 a = true ∧ inK .i64 b = true ∧ inK .u8 e = true ∧ inK .u8 f = true := by
  obtain ⟨cs, rfl, hsz⟩ := okWide_struct Try.underlying25 hv
  obtain ⟨c0, c1, c2', c3, c4', rfl⟩ := array5 (hsz.trans c25)
  obtain ⟨fuel, hf⟩ := h
  obtain ⟨y0, y1, y2, y3, n, hx, _, h0, h1, h2, h3⟩ := Joins.trod_struct4 Try.underlying25 hf
  simp only [Value.cells, c23, c4, c5, List.drop_zero, List.take_succ_cons, List.take_zero, List.drop_succ_cons] at h0 h1 h2 h3
  obtain ⟨z0, z1, m, hz, _, g0, g1⟩ := trod_struct2 Try.underlying23 h0
  simp only [c2, List.drop_zero, List.take_succ_cons, List.take_zero, List.drop_succ_cons] at g0 g1
  obtain ⟨a, ha, rfl, wa⟩ := DataW.trod_int Try.underlying2 g0
  obtain ⟨b, hb, rfl, wb⟩ := DataW.trod_int Try.underlying2 g1
  obtain ⟨c, hc, rfl⟩ := DataW.trod_bool Try.underlying4 h1
  obtain ⟨e, he, rfl, we⟩ := DataW.trod_int Try.underlying5 h2
  obtain ⟨f, hf', rfl, wf⟩ := DataW.trod_int Try.underlying5 h3
  simp only [List.cons.injEq, and_true] at ha hb hc he hf'
  subst ha hb hc he hf' hz
  cases hx
  exact ⟨a, b, c, e, f, rfl, rfl, wf_i64 wa, wf_i64 wb, wf_u8 we, wf_u8 wf⟩
theorem ir_range {h : Array Obj} {a b e f : Int} {c : Bool} (ha : inK .i64 a = true) (hb : inK .i64 b = true) (he : inK .u8 e = true) (hf : inK .u8 f = true) :
    IR h (fun _ => False) (.agg [.int true .i64 a, .int true .i64 b, .bool true c, .int true .u8 e, .int true .u8 f]) (.agg #[.int .i64 a, .int .i64 b, .bool c, .int .u8 e, .int .u8 f]) := by
  refine .agg _ _ rfl fun j v x hj hx => ?_
  match j with
  | 0 => simp at hj hx; subst hj hx; exact .int _ _ _ ha
  | 1 => simp at hj hx; subst hj hx; exact .int _ _ _ hb
  | 2 => simp at hj hx; subst hj hx; exact .bool _ _
  | 3 => simp at hj hx; subst hj hx; exact .int _ _ _ he
  | 4 => simp at hj hx; subst hj hx; exact .int _ _ _ hf
  | j + 5 => simp at hj
theorem Try.own : ownKnob Try.prog.godebug = none := by kernel_rfl
theorem Try.laidOut : laidOutB Try.prog = true := by kernel_rfl
theorem spanLattice_lifted (os : Os) (started : os.Started) (H : Type) (enc : TypeId × Value → H) :
    ReturnsInHanded {} Try.checked os 5 .any (Rows.spanLatticeSpec.pre6 enc Try.prog Try.f5 Rows.spanLatticeRow.domain false) (Rows.spanLatticeSpec.post enc Try.prog Try.f5 false true false false) := by
  refine returnsInHanded_of_change (C := Try.checked) Try.own started (by kernel_rfl) Try.func5
    (ChangeSpec.witness6 (enc := enc) (C := Try.checked) false ⟨#[], #[.agg #[.int .i64 0, .int .i64 0, .bool false, .int .u8 0, .int .u8 0], .agg #[.int .i64 0, .int .i64 0, .bool false, .int .u8 0, .int .u8 0], .int .i64 0], []⟩ 8 (by kernel_rfl) (by kernel_rfl) (by kernel_rfl) (by kernel_rfl)) ?_
  intro W base args ds gs before hval0 hW hcnd _
  have hval : ∀ (j : Nat) t v, Try.f5.params[j]? = some t → args[j]? = some v → Value.okWide Try.prog W .any base t v := hval0
  have hW' := hW
  obtain ⟨p, q, hA0, hV, rfl, hfz, hnd⟩ := hW
  have hA : DataW.TrodAll enc Try.prog W 0 (fun _ => true) true Try.f5.params.toList args.toList ds p := hA0
  rw [Try.params5] at hA hval
  obtain ⟨v0, vs0, d0, ds0, p0, q0, hargs, rfl, rfl, h0, r0⟩ := trodAll_cons hA
  obtain ⟨v1, vs1, d1, ds1, p1, q1, rfl, rfl, rfl, h1, r1⟩ := trodAll_cons r0
  obtain ⟨v2, vs2, d2, ds2, p2, q2, rfl, rfl, rfl, h2, r2⟩ := trodAll_cons r1
  obtain ⟨rfl, rfl, rfl⟩ := trodAll_nil r2
  obtain rfl : args = #[v0, v1, v2] := by cases args; simp_all
  obtain ⟨rfl, rfl⟩ := trodVars_none hV
  obtain ⟨a, b, c, e, f, rfl, rfl, wa, wb, we, wf⟩ := open_range (hval 0 25 v0 rfl rfl) h0
  obtain ⟨a', b', c', e', f', rfl, rfl, wa', wb', we', wf'⟩ := open_range (hval 1 25 v1 rfl rfl) h1
  obtain ⟨n, rfl, rfl, rfl, wn⟩ := open_int Try.underlying2 (hval 2 2 v2 rfl rfl) h2
  clear hA0 hval0
  have hs := calls_of_sim (S.lattice_says a b c e f a' b' c' e' f' n) (w := W) (xs := #[.agg #[.int .i64 a, .int .i64 b, .bool c, .int .u8 e, .int .u8 f], .agg #[.int .i64 a', .int .i64 b', .bool c', .int .u8 e', .int .u8 f'], .int .i64 n]) rfl
    (fun j u x hj hx => by
      match j with
      | 0 => simp at hj hx; subst hj hx; exact ir_range wa wb we wf
      | 1 => simp at hj hx; subst hj hx; exact ir_range wa' wb' we' wf'
      | 2 => simp at hj hx; subst hj hx; exact .int _ _ _ (wf_i64 wn)
      | j + 3 => simp at hj) (R := fun x => x = .bool true) (fun _ _ _ _ hv => vr_bool hv)
  refine hs.mono fun e W' ⟨x, he, hx, bel⟩ => ?_
  subst hx; subst he
  exact ⟨_, rfl, _, _, _, [], _, [], hW', trodAll_mk1 (shut_bool Try.underlying4 _), (trodAll_cons_mk (Below.trod Try.laidOut (by kernel_rfl) (of_decide_eq_true (by kernel_rfl)) h0 bel (by simp)) (trodAll_cons_mk (Below.trod Try.laidOut (by kernel_rfl) (of_decide_eq_true (by kernel_rfl)) h1 bel (by simp)) (trodAll_cons_mk (shut_int Try.underlying2 wn) trodAll_mk0))), rfl, bel.frame _, fun h => by cases h⟩
theorem spanLattice_holds : Rows.SpanLatticeSaid :=
  OpenClaim.holds_of_wide 5 Try.f5 rfl rfl rfl rfl rfl rfl rfl ⟨rfl, rfl, rfl, rfl, rfl⟩ rfl rfl rfl rfl rfl (by kernel_rfl) Try.func5 (by kernel_rfl)
    (of_decide_eq_true (by kernel_rfl)) (by unfold Func.isWrapper; first | (rw [if_pos (by decide +kernel)]; kernel_rfl) | (rw [if_neg (by decide +kernel)]; exact ⟨rfl, rfl⟩))
    (fun os started H enc _ => spanLattice_lifted os started H enc)
#print axioms spanLattice_holds
end Go.Proofs.Ytobomgckeoomkaa
