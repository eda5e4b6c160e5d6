/- SpanTruth: for every input the law answers true, and each argument reads behind the call as it read before. -/
import Derived.Test.YtobomgckeoomkaaSpPTruth
import Derived.Test.YtobomgckeoomkaaRowBase
set_option maxRecDepth 100000
set_option linter.unusedVariables false
namespace Go.Proofs.Ytobomgckeoomkaa
open Go.ChangeShapes Go.WideShapes Go.ChangeAt Go.RowKit Go.Im
theorem spanTruth_lifted (os : Os) (started : os.Started) (H : Type) (enc : TypeId × Value → H) :
    ReturnsInHanded {} Try.checked os 8 .any (Rows.spanTruthSpec.pre6 enc Try.prog Try.f8 Rows.spanTruthRow.domain false) (Rows.spanTruthSpec.post enc Try.prog Try.f8 false true false false) := by
  refine returnsInHanded_of_change (C := Try.checked) Try.own started (by kernel_rfl) Try.func8
    (ChangeSpec.witness6 (enc := enc) (C := Try.checked) false ⟨#[], #[.agg #[.int .i64 0, .int .i64 0, .bool false, .int .u8 0, .int .u8 0], .int .u64 0], []⟩ 8 (by kernel_rfl) (by kernel_rfl) (by kernel_rfl) (by kernel_rfl)) ?_
  intro W base args ds gs before hval0 hW hcnd _
  have hval : ∀ (j : Nat) t v, Try.f8.params[j]? = some t → args[j]? = some v → Value.okWide Try.prog W .any base t v := hval0
  have hW' := hW
  obtain ⟨p, q, hA0, hV, rfl, hfz, hnd⟩ := hW
  have hA : DataW.TrodAll enc Try.prog W 0 (fun _ => true) true Try.f8.params.toList args.toList ds p := hA0
  rw [Try.params8] at hA hval
  obtain ⟨v0, vs0, d0, ds0, p0, q0, hargs, rfl, rfl, h0, r0⟩ := trodAll_cons hA
  obtain ⟨v1, vs1, d1, ds1, p1, q1, rfl, rfl, rfl, h1, r1⟩ := trodAll_cons r0
  obtain ⟨rfl, rfl, rfl⟩ := trodAll_nil r1
  obtain rfl : args = #[v0, v1] := by cases args; simp_all
  obtain ⟨rfl, rfl⟩ := trodVars_none hV
  obtain ⟨a0, b0, c0, e0, f0, rfl, rfl, wa0, wb0, we0, wf0⟩ := open_range (hval 0 25 v0 rfl rfl) h0
  obtain ⟨n1, rfl, rfl, rfl, wn1⟩ := open_int Try.underlying50 (hval 1 50 v1 rfl rfl) h1
  clear hA0 hval0
  have hs := calls_of_sim (S.truth_says a0 b0 c0 e0 f0 n1) (w := W) (xs := #[.agg #[.int .i64 a0, .int .i64 b0, .bool c0, .int .u8 e0, .int .u8 f0], .int .u64 n1]) rfl
    (fun j u x hj hx => by
      match j with
      | 0 => simp at hj hx; subst hj hx; exact ir_range wa0 wb0 we0 wf0
      | 1 => simp at hj hx; subst hj hx; exact .int _ _ _ (wf_u64 wn1)
      | j + 2 => simp at hj) (R := fun x => x = .bool true) (fun _ _ _ _ hv => vr_bool hv)
  refine hs.mono fun e W' ⟨x, he, hx, bel⟩ => ?_
  subst hx; subst he
  exact ⟨_, rfl, _, _, _, [], _, [], hW', trodAll_mk1 (shut_bool Try.underlying4 _), (trodAll_cons_mk (Below.trod Try.laidOut (by kernel_rfl) (of_decide_eq_true (by kernel_rfl)) h0 bel (by simp)) (trodAll_cons_mk (shut_int Try.underlying50 wn1) trodAll_mk0)), rfl, bel.frame _, fun h => by cases h⟩
theorem spanTruth_holds : Rows.SpanTruthSaid :=
  OpenClaim.holds_of_wide 8 Try.f8 rfl rfl rfl rfl rfl rfl rfl ⟨rfl, rfl, rfl, rfl, rfl⟩ rfl rfl rfl rfl rfl (by kernel_rfl) Try.func8 (by kernel_rfl)
    (of_decide_eq_true (by kernel_rfl)) (by unfold Func.isWrapper; first | (rw [if_pos (by decide +kernel)]; kernel_rfl) | (rw [if_neg (by decide +kernel)]; exact ⟨rfl, rfl⟩))
    (fun os started H enc _ => spanTruth_lifted os started H enc)
#print axioms spanTruth_holds
end Go.Proofs.Ytobomgckeoomkaa
