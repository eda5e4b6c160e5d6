/- SpanTells: for every input the law answers true, and each argument reads behind the call as it read before. -/
import Derived.Test.YtobomgckeoomkaaSpRL
import Derived.Test.YtobomgckeoomkaaRowBase
set_option maxRecDepth 100000
set_option linter.unusedVariables false
namespace Go.Proofs.Ytobomgckeoomkaa
open Go.ChangeShapes Go.WideShapes Go.ChangeAt Go.RowKit Go.Im
theorem spanTells_lifted (os : Os) (started : os.Started) (H : Type) (enc : TypeId × Value → H) :
    ReturnsInHanded {} Try.checked os 3 .any (Rows.spanTellsSpec.pre6 enc Try.prog Try.f3 Rows.spanTellsRow.domain false) (Rows.spanTellsSpec.post enc Try.prog Try.f3 false true false false) := by
  refine returnsInHanded_of_change (C := Try.checked) Try.own started (by kernel_rfl) Try.func3
    (ChangeSpec.witness6 (enc := enc) (C := Try.checked) false ⟨#[], #[.agg #[.int .i64 0, .int .i64 0, .bool false, .int .u8 0, .int .u8 0], .agg #[.int .i64 0, .int .i64 0, .bool false, .int .u8 0, .int .u8 0], .string ⟨#[]⟩, .int .u8 0, .int .i64 0], []⟩ 8 (by kernel_rfl) (by kernel_rfl) (by kernel_rfl) (by kernel_rfl)) ?_
  intro W base args ds gs before hval0 hW hcnd _
  have hval : ∀ (j : Nat) t v, Try.f3.params[j]? = some t → args[j]? = some v → Value.okWide Try.prog W .any base t v := hval0
  have hW' := hW
  obtain ⟨p, q, hA0, hV, rfl, hfz, hnd⟩ := hW
  have hA : DataW.TrodAll enc Try.prog W 0 (fun _ => true) true Try.f3.params.toList args.toList ds p := hA0
  rw [Try.params3] at hA hval
  obtain ⟨v0, vs0, d0, ds0, p0, q0, hargs, rfl, rfl, h0, r0⟩ := trodAll_cons hA
  obtain ⟨v1, vs1, d1, ds1, p1, q1, rfl, rfl, rfl, h1, r1⟩ := trodAll_cons r0
  obtain ⟨v2, vs2, d2, ds2, p2, q2, rfl, rfl, rfl, h2, r2⟩ := trodAll_cons r1
  obtain ⟨v3, vs3, d3, ds3, p3, q3, rfl, rfl, rfl, h3, r3⟩ := trodAll_cons r2
  obtain ⟨v4, vs4, d4, ds4, p4, q4, rfl, rfl, rfl, h4, r4⟩ := trodAll_cons r3
  obtain ⟨rfl, rfl, rfl⟩ := trodAll_nil r4
  obtain rfl : args = #[v0, v1, v2, v3, v4] := by cases args; simp_all
  obtain ⟨rfl, rfl⟩ := trodVars_none hV
  obtain ⟨a0, b0, c0, e0, f0, rfl, rfl, wa0, wb0, we0, wf0⟩ := open_range (hval 0 25 v0 rfl rfl) h0
  obtain ⟨a1, b1, c1, e1, f1, rfl, rfl, wa1, wb1, we1, wf1⟩ := open_range (hval 1 25 v1 rfl rfl) h1
  obtain ⟨s2, rfl⟩ := okWide_string Try.underlying9 (hval 2 9 v2 rfl rfl)
  obtain ⟨n3, rfl, rfl, rfl, wn3⟩ := open_int Try.underlying5 (hval 3 5 v3 rfl rfl) h3
  obtain ⟨n4, rfl, rfl, rfl, wn4⟩ := open_int Try.underlying2 (hval 4 2 v4 rfl rfl) h4
  clear hA0 hval0
  have hs := calls_of_sim (S.tells_says a0 b0 c0 e0 f0 a1 b1 c1 e1 f1 s2 n3 n4) (w := W) (xs := #[.agg #[.int .i64 a0, .int .i64 b0, .bool c0, .int .u8 e0, .int .u8 f0], .agg #[.int .i64 a1, .int .i64 b1, .bool c1, .int .u8 e1, .int .u8 f1], .string s2, .int .u8 n3, .int .i64 n4]) rfl
    (fun j u x hj hx => by
      match j with
      | 0 => simp at hj hx; subst hj hx; exact ir_range wa0 wb0 we0 wf0
      | 1 => simp at hj hx; subst hj hx; exact ir_range wa1 wb1 we1 wf1
      | 2 => simp at hj hx; subst hj hx; exact .str _ _
      | 3 => simp at hj hx; subst hj hx; exact .int _ _ _ (wf_u8 wn3)
      | 4 => simp at hj hx; subst hj hx; exact .int _ _ _ (wf_i64 wn4)
      | j + 5 => simp at hj) (R := fun x => x = .bool true) (fun _ _ _ _ hv => vr_bool hv)
  refine hs.mono fun e W' ⟨x, he, hx, bel⟩ => ?_
  subst hx; subst he
  exact ⟨_, rfl, _, _, _, [], _, [], hW', trodAll_mk1 (shut_bool Try.underlying4 _), (trodAll_cons_mk (Below.trod Try.laidOut (by kernel_rfl) (of_decide_eq_true (by kernel_rfl)) h0 bel (fun x hx => by first | (simp at hx; done) | simpa using hW'.lt x (by simp [hx]))) (trodAll_cons_mk (Below.trod Try.laidOut (by kernel_rfl) (of_decide_eq_true (by kernel_rfl)) h1 bel (fun x hx => by first | (simp at hx; done) | simpa using hW'.lt x (by simp [hx]))) (trodAll_cons_mk (Below.trod Try.laidOut (by kernel_rfl) (of_decide_eq_true (by kernel_rfl)) h2 bel (fun x hx => by first | (simp at hx; done) | simpa using hW'.lt x (by simp [hx]))) (trodAll_cons_mk (shut_int Try.underlying5 wn3) (trodAll_cons_mk (shut_int Try.underlying2 wn4) trodAll_mk0))))), rfl, bel.frame _, fun h => by cases h⟩
theorem spanTells_holds : Rows.SpanTellsSaid :=
  OpenClaim.holds_of_wide 3 Try.f3 rfl rfl rfl rfl rfl rfl rfl ⟨rfl, rfl, rfl, rfl, rfl⟩ rfl rfl rfl rfl rfl (by kernel_rfl) Try.func3 (by kernel_rfl)
    (of_decide_eq_true (by kernel_rfl)) (by unfold Func.isWrapper; first | (rw [if_pos (by decide +kernel)]; kernel_rfl) | (rw [if_neg (by decide +kernel)]; exact ⟨rfl, rfl⟩))
    (fun os started H enc _ => spanTells_lifted os started H enc)
#print axioms spanTells_holds
end Go.Proofs.Ytobomgckeoomkaa
