/- The ideal machine: loops by induction: what one round comes to, and what the rest does. -/
import Derived.Test.YtalnancndjgmgaaGreatDoorImCon
namespace Go.Im
set_option linter.unusedVariables false
set_option linter.unusedSimpArgs false
theorem SimR.loop {P : Program} {c : Code} {T : List V} {H : Heap} {ex : Ex} {T' : List V} {H' : Heap} (h : SimR P c T H ex T' H') : SimC P (.loop c) T H ex T' H' := by
  obtain ⟨h1, h2, k, h3⟩ := h
  exact ⟨h1, h2, fun X w a Q hr hq => wp_loop_rounds k (h3 X w a Q hr hq)⟩
theorem SimR.step {P : Program} {c : Code} {T : List V} {H : Heap} {T1 : List V} {H1 : Heap} {ex : Ex} {T' : List V} {H' : Heap} (h : SimC P c T H .normal T1 H1) (k : SimR P c T1 H1 ex T' H') : SimR P c T H ex T' H' := by
  obtain ⟨c1, l1, w1⟩ := h
  obtain ⟨c2, l2, k, w2⟩ := k
  refine ⟨c1.trans c2 l1, by omega, k + 1, fun X w a Q hr hq => ?_⟩
  rw [rounds_succ]
  refine w1 X w a _ hr fun X' w' a' hr' hs' => ?_
  show Code.rounds P c Q k a' w'
  exact w2 X' w' a' Q hr' fun X2 w2 a2 hr2 hs2 => hq X2 w2 a2 hr2 (Step.trans hr.rel hs' hs2)
theorem SimR.last {P : Program} {c : Code} {T : List V} {H : Heap} {ex : Ex} {T' : List V} {H' : Heap} (h : SimC P c T H ex T' H') (hx : ex ≠ .normal) : SimR P c T H ex T' H' := by
  obtain ⟨c1, l1, w1⟩ := h
  refine ⟨c1, l1, 1, fun X w a Q hr hq => ?_⟩
  rw [rounds_succ]
  refine w1 X w a _ hr fun X' w' a' hr' hs' => ?_
  have := hq X' w' a' hr' hs'
  cases ex with
  | normal => exact absurd rfl hx
  | exit j => exact this
  | ret => exact this
/-- A piece of code, run along a way. -/
def runC (E : Env) (c : Code) (T : List V) (H : Heap) (ps : List Ev) : Option (Prop × Ex × List V × Heap) :=
  match exec E 1000 c ⟨T, H, ps, True⟩ with
  | some (ex, ⟨T', H', [], ob⟩) => some (ob, ex, T', H')
  | _ => none
theorem simC_run {E : Env} (hE : EnvOk E) {c : Code} {T : List V} {H : Heap} {ps : List Ev} {ob : Prop} {ex : Ex} {T' : List V} {H' : Heap} (h : runC E c T H ps = some (ob, ex, T', H')) (ho : ob) : SimC E.P c T H ex T' H' := by
  unfold runC at h
  split at h
  · rename_i ex1 T1 H1 ob1 hx
    cases h
    obtain ⟨_, h2⟩ := (exec_ok hE 1000).1 c _ _ _ hx
    exact h2 ho
  · cases h
/-- What is behind n is forgotten, and the slots are said less of. -/
theorem SimC.forget {P : Program} {c : Code} {T : List V} {H : Heap} {ex : Ex} {T1 T2 : List V} {H1 : Heap} (n : Nat) (h : SimC P c T H ex T1 H1) (hl : T1.length = T2.length) (hs : ∀ (j : Nat) (v : V), T2[j]? = some v → ∃ v1, T1[j]? = some v1 ∧ Says v1 v) (hn : H.length ≤ n) : SimC P c T H ex T2 (cut n (.tup T2) H1) := by
  obtain ⟨c1, l1, w1⟩ := h
  refine ⟨fun j B hj hB hd => c1 j B hj ?_ hd, ?_, fun X w a Q hr hq => w1 X w a Q hr fun X' w' a' hr' hs' => ?_⟩
  · unfold cut at hB
    split at hB
    · rw [List.getElem?_take] at hB
      split at hB
      · exact hB
      · cases hB
    · exact hB
  · unfold cut
    split
    · rw [List.length_take]; omega
    · exact l1
  · have hv : X'.vr w' (.tup T2) (.tuple a'.tmps) := by
      refine .tup _ _ (by rw [← hl]; exact hr'.sr.len) fun j u x hj hx => ?_
      obtain ⟨v, hv, hvs⟩ := hs j u hj
      obtain ⟨y, hy, hvy⟩ := hr'.sr.at_ j v hv
      rw [hx] at hy
      cases hy
      exact hvs _ _ _ _ hvy
    obtain ⟨X2, g1, g2, g3⟩ := cut_step (n0 := n) (fun id hp => hr.dom id (Nat.le_trans hn hp)) hs' hv hr'.dom
    refine hq X2 w' a' ⟨⟨by rw [← hl]; exact hr'.sr.len, fun t v ht => ?_⟩, g1.rel, g3, hr'.defers⟩ g1
    obtain ⟨v1, hv1, _⟩ := hs t v ht
    obtain ⟨y, hy, _⟩ := hr'.sr.at_ t v1 hv1
    obtain ⟨xs, hxs, hxl, hxr⟩ := vr_tup g2
    cases hxs
    exact ⟨y, hy, hxr t v y ht hy⟩
theorem tab_says {T : List V} {slots : List Nat} {j : Nat} {v : V} (h : (tabV T.length (onlyV T slots))[j]? = some v) : ∃ v1, T[j]? = some v1 ∧ Says v1 v := by
  have htl : j < T.length := by have := (List.getElem?_eq_some_iff.1 h).1; simpa [tabV] using this
  simp only [tabV] at h
  rw [List.getElem?_map, List.getElem?_range htl] at h
  simp only [Option.map_some, Option.some.injEq] at h
  refine ⟨T[j], List.getElem?_eq_getElem htl, ?_⟩
  have : ∀ sl : List Nat, ((onlyV T sl).lookup j).getD .any = T[j] ∨ ((onlyV T sl).lookup j).getD .any = .any := by
    intro sl
    induction sl with
    | nil => exact .inr rfl
    | cons s sl ih =>
      simp only [onlyV, List.map_cons, List.lookup_cons]
      by_cases e : (j == s) = true
      · rw [e]
        have e' : j = s := by simpa using e
        subst e'
        exact .inl (by simp [List.getElem?_eq_getElem htl])
      · rw [Bool.eq_false_iff.2 e]; exact ih
  rcases this slots with h1 | h1
  · rw [← h, h1]; exact Says.refl _
  · rw [← h, h1]; exact fun _ _ _ _ _ => .imm _ _ (.any _)
/-- A piece of code, run along a way; these slots alone, and n blocks, are kept. -/
def runF (E : Env) (c : Code) (T : List V) (H : Heap) (ps : List Ev) (n : Nat) (slots : List Nat) : Option (Prop × Ex × List V × Heap) :=
  match exec E 1000 c ⟨T, H, ps, True⟩ with
  | some (ex, ⟨T', H', [], ob⟩) => some (ob, ex, tabV T'.length (onlyV T' slots), cut n (.tup (tabV T'.length (onlyV T' slots))) H')
  | _ => none
theorem simC_runF {E : Env} (hE : EnvOk E) {c : Code} {T : List V} {H : Heap} {ps : List Ev} {n : Nat} {slots : List Nat} {ob : Prop} {ex : Ex} {T' : List V} {H' : Heap} (h : runF E c T H ps n slots = some (ob, ex, T', H')) (ho : ob) (hn : H.length ≤ n) : SimC E.P c T H ex T' H' := by
  unfold runF at h
  split at h
  · rename_i ex1 T1 H1 ob1 hx
    cases h
    obtain ⟨_, h2⟩ := (exec_ok hE 1000).1 c _ _ _ hx
    exact SimC.forget n (h2 ho) (by simp [tabV]) (fun j v hj => tab_says hj) hn
  · cases h
theorem SimC.pre {P : Program} {c : Code} {T T2 : List V} {H : Heap} {ex : Ex} {T' : List V} {H' : Heap} (h : SimC P c T2 H ex T' H') (hl : T.length = T2.length) (hs : ∀ (j : Nat) (v : V), T2[j]? = some v → ∃ v1, T[j]? = some v1 ∧ Says v1 v) : SimC P c T H ex T' H' := by
  obtain ⟨c1, l1, w1⟩ := h
  refine ⟨c1, l1, fun X w a Q hr hq => w1 X w a Q ⟨⟨by rw [← hl]; exact hr.sr.len, fun t v ht => ?_⟩, hr.rel, hr.dom, hr.defers⟩ hq⟩
  obtain ⟨v1, hv1, hvs⟩ := hs t v ht
  obtain ⟨y, hy, hvy⟩ := hr.sr.at_ t v1 hv1
  exact ⟨y, hy, hvs _ _ _ _ hvy⟩
/-- The loops in a piece of code, one behind the other. -/
def loopsIn : Code → List Code
  | .seq a b => loopsIn a ++ loopsIn b
  | .cond _ a b => loopsIn a ++ loopsIn b
  | .block _ c => loopsIn c
  | .loop c => c :: loopsIn c
  | _ => []
/-- The k-th loop of a function. -/
def loopOf (P : Program) (f : FuncId) (k : Nat) : Code := match P.funcs[f]? with
  | some fn => match fn.body with
    | some c => (loopsIn c).getD k .skip
    | none => .skip
  | none => .skip
end Go.Im
