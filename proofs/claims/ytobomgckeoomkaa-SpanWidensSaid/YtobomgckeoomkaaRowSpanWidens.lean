/- SpanWidens: for every input the law answers true, and each argument reads behind the call as it read before. -/
import Derived.Test.YtobomgckeoomkaaSpPW
import Derived.Test.YtobomgckeoomkaaRowInts
set_option maxRecDepth 100000
set_option linter.unusedVariables false
namespace Go.Proofs.Ytobomgckeoomkaa
open Go.ChangeShapes Go.WideShapes Go.ChangeAt Go.RowKit Go.Im
theorem spanWidens_lifted (os : Os) (started : os.Started) (H : Type) (enc : TypeId × Value → H) :
    ReturnsInHanded {} Try.checked os 6 .any (Rows.spanWidensSpec.pre6 enc Try.prog Try.f6 Rows.spanWidensRow.domain false) (Rows.spanWidensSpec.post enc Try.prog Try.f6 false true false false) := by
  refine returnsInHanded_of_change (C := Try.checked) Try.own started (by kernel_rfl) Try.func6
    (ChangeSpec.witness6 (enc := enc) (C := Try.checked) false ⟨#[], #[.agg #[.int .i64 0, .int .i64 0, .bool false, .int .u8 0, .int .u8 0], .slice none 0 0], []⟩ 8 (by kernel_rfl) (by kernel_rfl) (by kernel_rfl) (by kernel_rfl)) ?_
  intro W base args ds gs before hval0 hW hcnd _
  have hval : ∀ (j : Nat) t v, Try.f6.params[j]? = some t → args[j]? = some v → Value.okWide Try.prog W .any base t v := hval0
  have hW' := hW
  obtain ⟨p, q, hA0, hV, rfl, hfz, hnd⟩ := hW
  have hA : DataW.TrodAll enc Try.prog W 0 (fun _ => true) true Try.f6.params.toList args.toList ds p := hA0
  rw [Try.params6] at hA hval
  obtain ⟨v0, vs0, d0, ds0, p0, q0, hargs, rfl, rfl, h0, r0⟩ := trodAll_cons hA
  obtain ⟨v1, vs1, d1, ds1, p1, q1, rfl, rfl, rfl, h1, r1⟩ := trodAll_cons r0
  obtain ⟨rfl, rfl, rfl⟩ := trodAll_nil r1
  obtain rfl : args = #[v0, v1] := by cases args; simp_all
  obtain ⟨rfl, rfl⟩ := trodVars_none hV
  obtain ⟨a0, b0, c0, e0, f0, rfl, rfl, wa0, wb0, we0, wf0⟩ := open_range (hval 0 25 v0 rfl rfl) h0
  obtain ⟨l1, hi1, hw1, hl1⟩ := open_islice Try.underlying57 Try.underlying2 (by kernel_rfl) (fun n h => wf_i64 h) (hval 1 57 v1 rfl rfl) h1
  clear hA0 hval0
  have hs := calls_of_sim (S.widens_says a0 b0 c0 e0 f0 l1 (wf_i64 (len_wf hl1)) (fun x hx => inK_spec.1 (hw1 x hx))) (w := W) (xs := #[.agg #[.int .i64 a0, .int .i64 b0, .bool c0, .int .u8 e0, .int .u8 f0], v1]) rfl
    (fun j u x hj hx => by
      match j with
      | 0 => simp at hj hx; subst hj hx; exact ir_range wa0 wb0 we0 wf0
      | 1 => simp at hj hx; subst hj hx; exact hi1
      | j + 2 => simp at hj) (R := fun x => x = .bool true) (fun _ _ _ _ hv => vr_bool hv)
  refine hs.mono fun e W' ⟨x, he, hx, bel⟩ => ?_
  subst hx; subst he
  exact ⟨_, rfl, _, _, _, [], _, [], hW', trodAll_mk1 (shut_bool Try.underlying4 _), (trodAll_cons_mk (Below.trod Try.laidOut (by kernel_rfl) (of_decide_eq_true (by kernel_rfl)) h0 bel (fun x hx => by first | (simp at hx; done) | simpa using hW'.lt x (by simp [hx]))) (trodAll_cons_mk (Below.trod Try.laidOut (by kernel_rfl) (of_decide_eq_true (by kernel_rfl)) h1 bel (fun x hx => by first | (simp at hx; done) | simpa using hW'.lt x (by simp [hx]))) trodAll_mk0)), rfl, bel.frame _, fun h => by cases h⟩
theorem spanWidens_holds : Rows.SpanWidensSaid :=
  OpenClaim.holds_of_wide 6 Try.f6 rfl rfl rfl rfl rfl rfl rfl ⟨rfl, rfl, rfl, rfl, rfl⟩ rfl rfl rfl rfl rfl (by kernel_rfl) Try.func6 (by kernel_rfl)
    (of_decide_eq_true (by kernel_rfl)) (by unfold Func.isWrapper; first | (rw [if_pos (by decide +kernel)]; kernel_rfl) | (rw [if_neg (by decide +kernel)]; exact ⟨rfl, rfl⟩))
    (fun os started H enc _ => spanWidens_lifted os started H enc)
#print axioms spanWidens_holds
end Go.Proofs.Ytobomgckeoomkaa
