/- SpanExact: for every input the law answers true, and each argument reads behind the call as it read before. -/
import Derived.Test.YtobomgckeoomkaaSpPExact
import Derived.Test.YtobomgckeoomkaaRowBase
set_option maxRecDepth 100000
set_option linter.unusedVariables false
namespace Go.Proofs.Ytobomgckeoomkaa
open Go.ChangeShapes Go.WideShapes Go.ChangeAt Go.RowKit Go.Im
theorem spanExact_lifted (os : Os) (started : os.Started) (H : Type) (enc : TypeId × Value → H) :
    ReturnsInHanded {} Try.checked os 7 .any (Rows.spanExactSpec.pre6 enc Try.prog Try.f7 Rows.spanExactRow.domain false) (Rows.spanExactSpec.post enc Try.prog Try.f7 false true false false) := by
  refine returnsInHanded_of_change (C := Try.checked) Try.own started (by kernel_rfl) Try.func7
    (ChangeSpec.witness6 (enc := enc) (C := Try.checked) false ⟨#[], #[.int .i64 0, .int .i64 0, .int .u8 0, .agg #[.int .i64 0, .int .i64 0, .bool false, .int .u8 0, .int .u8 0], .agg #[.int .i64 0, .int .i64 0, .bool false, .int .u8 0, .int .u8 0]], []⟩ 8 (by kernel_rfl) (by kernel_rfl) (by kernel_rfl) (by kernel_rfl)) ?_
  intro W base args ds gs before hval0 hW hcnd _
  have hval : ∀ (j : Nat) t v, Try.f7.params[j]? = some t → args[j]? = some v → Value.okWide Try.prog W .any base t v := hval0
  have hW' := hW
  obtain ⟨p, q, hA0, hV, rfl, hfz, hnd⟩ := hW
  have hA : DataW.TrodAll enc Try.prog W 0 (fun _ => true) true Try.f7.params.toList args.toList ds p := hA0
  rw [Try.params7] at hA hval
  obtain ⟨v0, vs0, d0, ds0, p0, q0, hargs, rfl, rfl, h0, r0⟩ := trodAll_cons hA
  obtain ⟨v1, vs1, d1, ds1, p1, q1, rfl, rfl, rfl, h1, r1⟩ := trodAll_cons r0
  obtain ⟨v2, vs2, d2, ds2, p2, q2, rfl, rfl, rfl, h2, r2⟩ := trodAll_cons r1
  obtain ⟨v3, vs3, d3, ds3, p3, q3, rfl, rfl, rfl, h3, r3⟩ := trodAll_cons r2
  obtain ⟨v4, vs4, d4, ds4, p4, q4, rfl, rfl, rfl, h4, r4⟩ := trodAll_cons r3
  obtain ⟨rfl, rfl, rfl⟩ := trodAll_nil r4
  obtain rfl : args = #[v0, v1, v2, v3, v4] := by cases args; simp_all
  obtain ⟨rfl, rfl⟩ := trodVars_none hV
  obtain ⟨n0, rfl, rfl, rfl, wn0⟩ := open_int Try.underlying2 (hval 0 2 v0 rfl rfl) h0
  obtain ⟨n1, rfl, rfl, rfl, wn1⟩ := open_int Try.underlying2 (hval 1 2 v1 rfl rfl) h1
  obtain ⟨n2, rfl, rfl, rfl, wn2⟩ := open_int Try.underlying5 (hval 2 5 v2 rfl rfl) h2
  obtain ⟨a3, b3, c3, e3, f3, rfl, rfl, wa3, wb3, we3, wf3⟩ := open_range (hval 3 25 v3 rfl rfl) h3
  obtain ⟨a4, b4, c4, e4, f4, rfl, rfl, wa4, wb4, we4, wf4⟩ := open_range (hval 4 25 v4 rfl rfl) h4
  clear hA0 hval0
  have hs := calls_of_sim (S.exact_says n0 n1 n2 a3 b3 c3 e3 f3 a4 b4 c4 e4 f4) (w := W) (xs := #[.int .i64 n0, .int .i64 n1, .int .u8 n2, .agg #[.int .i64 a3, .int .i64 b3, .bool c3, .int .u8 e3, .int .u8 f3], .agg #[.int .i64 a4, .int .i64 b4, .bool c4, .int .u8 e4, .int .u8 f4]]) rfl
    (fun j u x hj hx => by
      match j with
      | 0 => simp at hj hx; subst hj hx; exact .int _ _ _ (wf_i64 wn0)
      | 1 => simp at hj hx; subst hj hx; exact .int _ _ _ (wf_i64 wn1)
      | 2 => simp at hj hx; subst hj hx; exact .int _ _ _ (wf_u8 wn2)
      | 3 => simp at hj hx; subst hj hx; exact ir_range wa3 wb3 we3 wf3
      | 4 => simp at hj hx; subst hj hx; exact ir_range wa4 wb4 we4 wf4
      | j + 5 => simp at hj) (R := fun x => x = .bool true) (fun _ _ _ _ hv => vr_bool hv)
  refine hs.mono fun e W' ⟨x, he, hx, bel⟩ => ?_
  subst hx; subst he
  exact ⟨_, rfl, _, _, _, [], _, [], hW', trodAll_mk1 (shut_bool Try.underlying4 _), (trodAll_cons_mk (shut_int Try.underlying2 wn0) (trodAll_cons_mk (shut_int Try.underlying2 wn1) (trodAll_cons_mk (shut_int Try.underlying5 wn2) (trodAll_cons_mk (Below.trod Try.laidOut (by kernel_rfl) (of_decide_eq_true (by kernel_rfl)) h3 bel (by simp)) (trodAll_cons_mk (Below.trod Try.laidOut (by kernel_rfl) (of_decide_eq_true (by kernel_rfl)) h4 bel (by simp)) trodAll_mk0))))), rfl, bel.frame _, fun h => by cases h⟩
theorem spanExact_holds : Rows.SpanExactSaid :=
  OpenClaim.holds_of_wide 7 Try.f7 rfl rfl rfl rfl rfl rfl rfl ⟨rfl, rfl, rfl, rfl, rfl⟩ rfl rfl rfl rfl rfl (by kernel_rfl) Try.func7 (by kernel_rfl)
    (of_decide_eq_true (by kernel_rfl)) (by unfold Func.isWrapper; first | (rw [if_pos (by decide +kernel)]; kernel_rfl) | (rw [if_neg (by decide +kernel)]; exact ⟨rfl, rfl⟩))
    (fun os started H enc _ => spanExact_lifted os started H enc)
#print axioms spanExact_holds
end Go.Proofs.Ytobomgckeoomkaa
