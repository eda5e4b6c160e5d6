/- The ideal machine: ends of one shape: every part as a symbol, blocks under numbers in a row. -/
import Derived.Test.YtalnancndjgmgaaGreatDoorImKan
namespace Go.Im
set_option linter.unusedVariables false
set_option linter.unusedSimpArgs false
/-- Every part as a symbol; a list of what is told is a list that is not known. -/
def fixB (b : Blk) : Blk := { b with es := (match b.sym with | true => b.es | false => symDL b.es), sym := (match b.sym with | true => true | false => b.lst && pureL b.es), dirty := true }
theorem vr_pure {h : Array Obj} {own : Nat → Prop} {ρ : Rho} {v : V} {x : Value} (hv : VR h own ρ v x) : v.pure = true → IR h own v x := by
  induction hv with
  | imm v x hi => exact fun _ => hi
  | mptr id i off b s sz hρ => intro h; cases h
  | msl id i len cap b s sz o c e f hρ hl ho hb hc => intro h; cases h
  | osl id n cap a hn => intro h; cases h
  | odp id n cap a hn => intro h; cases h
  | agg cs xs hl hr ih => exact fun hp => .agg cs xs hl fun j v x hj hx => ih j v x hj hx (pureL_get hp hj)
  | tup cs xs hl hr ih => exact fun hp => .tup cs xs hl fun j v x hj hx => ih j v x hj hx (pureL_get hp hj)
  | fn f as' cs xs ys hl hr hl' hr' ih ih' =>
    intro hp
    simp only [V.pure, Bool.and_eq_true] at hp
    exact .fn f as' cs xs ys hl (fun j v x hj hx => ih j v x hj hx (pureL_get hp.1 hj)) hl' (fun j v x hj hx => ih' j v x hj hx (pureL_get hp.2 hj))
  | ifc t v x hr ih => exact fun hp => .ifc t v x (ih hp)
def fixH (H : Heap) : Heap := H.map (·.map fixB)
theorem fixH_len (H : Heap) : (fixH H).length = H.length := by simp [fixH]
theorem lookH_fix (H : Heap) (id : Nat) : lookH (fixH H) id = (lookH H id).map fixB := by
  simp only [lookH, fixH, List.getElem?_map]
  cases H[id]? with
  | none => rfl
  | some o => cases o <;> rfl
theorem fix_row {X : Cr} {w : World} {B : Blk} {c : Array Value} {s : Nat} (h : Row X w B c s) : Row X w (fixB B) c s := by
  intro k e hk
  simp only [fixB] at hk ⊢
  cases hs : B.sym with
  | true =>
    simp only [hs] at hk
    obtain ⟨h1, h2⟩ := h k e hk
    exact ⟨h1, fun j v hj => by obtain ⟨x, hx, hv, hi⟩ := h2 j v hj; exact ⟨x, hx, hv, fun _ => hi hs⟩⟩
  | false =>
    simp only [hs] at hk
    obtain ⟨u, hu, rfl⟩ := symDL_get hk
    obtain ⟨h1, h2⟩ := h k u hu
    refine ⟨by rw [symD_cells, symDL_len]; exact h1, fun j v hj => ?_⟩
    rw [symD_cells] at hj
    obtain ⟨v', hv', rfl⟩ := symDL_get hj
    obtain ⟨x, hx, hv, hi⟩ := h2 j v' hv'
    exact ⟨x, hx, symD_vr hv, fun hb => symD_ir (vr_pure hv (pure_cell (pureL_get (Bool.and_eq_true _ _ ▸ hb).2 hu) hv'))⟩
theorem fixB_len (B : Blk) : (fixB B).es.length = B.es.length := by
  simp only [fixB]
  cases B.sym with
  | true => rfl
  | false => exact symDL_len _
theorem fix_step {X : Cr} {w : World} {H : Heap} (hl : RelL X w (lookH H)) : Step X w (lookH H) X w (lookH (fixH H)) := by
  have conv : ∀ id B', lookH (fixH H) id = some B' → ∃ B, lookH H id = some B ∧ B' = fixB B := fun id B' h => by
    rw [lookH_fix] at h
    obtain ⟨B, hB, rfl⟩ := Option.map_eq_some_iff.1 h
    exact ⟨B, hB, rfl⟩
  refine { toExt := (Step.refl hl).toExt, rel := ⟨fun id B' hB' => ?_, fun i j Bi Bj p q hi hj hp hq hpq => ?_, hl.lt, hl.gl⟩, nl := fun b ⟨i, B', s, z, hi, hρ⟩ => ?_ }
  · obtain ⟨B, hB, rfl⟩ := conv id B' hB'
    rcases hl.blk id B hB with ⟨g1, g2, g3, g4, g5⟩ | ⟨b, s, c, e, hρ, ho, hb, hrow, hty, hls⟩
    · exact .inl ⟨g1, List.eq_nil_of_length_eq_zero (by rw [fixB_len, g2]; rfl), g3, g4, g5⟩
    · refine .inr ⟨b, s, c, e, hρ, ho, hb, fix_row hrow, hty, fun hl' => ?_⟩
      obtain ⟨⟨cap, q1, q2, q3, q4⟩, q5⟩ := hls hl'
      exact ⟨⟨cap, by rw [fixB_len]; exact q1, q2, by rw [fixB_len]; exact q3, q4⟩, q5⟩
  · obtain ⟨Bi', hi', _⟩ := conv i Bi hi
    obtain ⟨Bj', hj', _⟩ := conv j Bj hj
    exact hl.inj i j Bi' Bj' p q hi' hj' hp hq hpq
  · obtain ⟨B, hB, _⟩ := conv i B' hi
    exact .inr ⟨i, B, s, z, hB, hρ⟩
theorem cleanOf_fix : ∀ H : Heap, cleanOf (fixH H) = true
  | [] => rfl
  | some b :: H => by
    have := cleanOf_fix H
    simp only [fixH, List.map_cons, Option.map_some, cleanOf] at this ⊢
    simpa [fixB] using this
  | none :: H => by
    have := cleanOf_fix H
    simp only [fixH, List.map_cons, Option.map_none, cleanOf] at this ⊢
    exact this
theorem sr_symDL {X : Cr} {w : World} {T : List V} {a : Act} (h : SR X w T a) : SR X w (symDL T) a :=
  ⟨by rw [symDL_len]; exact h.len, fun t v ht => by obtain ⟨u, hu, rfl⟩ := symDL_get ht; obtain ⟨x, hx, hv⟩ := h.at_ t u hu; exact ⟨x, hx, symD_vr hv⟩⟩
theorem Sim.fix {P : Program} {f : FuncId} {args : List V} {H : Heap} {v : V} {H' : Heap} (h : Sim P f args H v H') : Sim P f args H (symD v) (fixH H') :=
  ⟨clean_of (cleanOf_fix H'), fun X w xs hr hd hl hx => (h.2 X w xs hr hd hl hx).mono fun e w' ⟨X', x, he, hs, hv, hdm⟩ =>
    ⟨X', x, he, Step.trans hr hs (fix_step hs.rel), symD_vr hv, fun id hid => hdm id (by rw [← fixH_len]; exact hid)⟩⟩
theorem Sim.at2 {P : Program} {f : FuncId} {args : List V} {H : Heap} {v : V} {H' : Heap} (h : Sim P f (symDL args) (fixH H) v H') (hc : cleanOf H' = true) : Sim P f args H v H' :=
  ⟨clean_of hc, fun X w xs hr hd hl hx => (h.2 X w xs (fix_step hr).rel (fun id hid => hd id (by rw [← fixH_len]; exact hid)) (by rw [symDL_len]; exact hl)
    fun j u x hj hjx => by obtain ⟨u', hu', rfl⟩ := symDL_get hj; exact symD_vr (hx j u' x hu' hjx)).mono fun e w' ⟨X', x, he, hs, hv, hdm⟩ => ⟨X', x, he, Step.trans hr (fix_step hr) hs, hv, hdm⟩⟩
theorem SimC.fix {P : Program} {c : Code} {T : List V} {H : Heap} {ex : Ex} {T' : List V} {H' : Heap} (h : SimC P c T H ex T' H') : SimC P c T H ex (symDL T') (fixH H') := by
  obtain ⟨_, h2, h3⟩ := h
  refine ⟨clean_of (cleanOf_fix H'), by rw [fixH_len]; exact h2, fun X w a Q hr hq => h3 X w a Q hr fun X' w' a' hr' hs' => ?_⟩
  have hf := fix_step hr'.rel
  exact hq X' w' a' ⟨sr_symDL hr'.sr, hf.rel, fun id hid => hr'.dom id (by rw [← fixH_len]; exact hid), hr'.defers⟩ (Step.trans hr.rel hs' hf)
theorem SimC.at2 {P : Program} {c : Code} {T : List V} {H : Heap} {ex : Ex} {T' : List V} {H' : Heap} (h : SimC P c (symDL T) (fixH H) ex T' H') (hc : cleanOf H' = true) : SimC P c T H ex T' H' := by
  obtain ⟨_, h2, h3⟩ := h
  refine ⟨clean_of hc, by rw [← fixH_len]; exact h2, fun X w a Q hr hq => ?_⟩
  have hf := fix_step hr.rel
  exact h3 X w a Q ⟨sr_symDL hr.sr, hf.rel, fun id hid => hr.dom id (by rw [← fixH_len]; exact hid), hr.defers⟩ fun X' w' a' hr' hs' => hq X' w' a' hr' (Step.trans hr.rel hf hs')
/-- The end, its blocks under numbers in a row. -/
theorem SimC.lab {P : Program} {c : Code} {T : List V} {H : Heap} {ex : Ex} {T' : List V} {H' : Heap} (q : List Nat) (hq : nodupB q = true) (h : SimC P c T H ex T' H') :
    SimC P c T H ex (symDL (renL (labF H.length q) T')) (fixH (labH H.length q H')) := by
  obtain ⟨_, h2, h3⟩ := h
  refine ⟨clean_of (cleanOf_fix _), by rw [fixH_len, labH_len]; omega, fun X w a Q hr hk => h3 X w a Q hr fun X1 w1 a1 hr1 hs1 => ?_⟩
  obtain ⟨X', g1, g2, g3⟩ := lab_step hr.rel hr.dom hs1 (nodupB_spec hq)
  have hf := fix_step g1.rel
  refine hk X' w1 a1 ⟨sr_symDL ⟨by rw [renL_len]; exact hr1.sr.len, fun t v ht => ?_⟩, hf.rel, fun id hid => g3 id (by rw [← fixH_len]; exact hid), hr1.defers⟩ (Step.trans hr.rel g1 hf)
  obtain ⟨u, hu, rfl⟩ := renL_get' ht
  obtain ⟨x, hx, hv⟩ := hr1.sr.at_ t u hu
  exact ⟨x, hx, g2 u x hv⟩
theorem Sim.lab {P : Program} {f : FuncId} {args : List V} {H : Heap} {v : V} {H' : Heap} (q : List Nat) (hq : nodupB q = true) (h : Sim P f args H v H') :
    Sim P f args H (symD (ren (labF H.length q) v)) (fixH (labH H.length q H')) :=
  ⟨clean_of (cleanOf_fix _), fun X w xs hr hd hl hx => (h.2 X w xs hr hd hl hx).mono fun e w' ⟨X1, x, he, hs, hv, hdm⟩ => by
    obtain ⟨X', g1, g2, g3⟩ := lab_step hr hd hs (nodupB_spec hq)
    exact ⟨X', x, he, Step.trans hr g1 (fix_step g1.rel), symD_vr (g2 v x hv), fun id hid => g3 id (by rw [← fixH_len]; exact hid)⟩⟩
end Go.Im
