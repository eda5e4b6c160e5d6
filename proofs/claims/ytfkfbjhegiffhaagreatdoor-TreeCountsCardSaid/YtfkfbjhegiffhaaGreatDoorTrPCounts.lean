/- TreeCounts: what the law computes is true. -/
import Derived.Test.YtfkfbjhegiffhaaGreatDoorTrA5
import Derived.Test.YtfkfbjhegiffhaaGreatDoorTrO
import Derived.Test.YtfkfbjhegiffhaaGreatDoorPlP
import Derived.Test.YtfkfbjhegiffhaaGreatDoorPlN
set_option linter.unusedVariables false
set_option linter.unusedSimpArgs false
set_option maxRecDepth 10000
namespace Go.Im
/-- Lines of a text are counted. -/
theorem eu_lines {c : Bool} {p : TreeProg} {s : List UInt8} (hs : s.length ≤ 1000000000) : ∀ (k i acc : Nat), i + k = s.length → acc + nl (s.drop i) ≤ 2000000000 →
    Eu (fun n => S.law03_TreeCounts_l0 n c (bs s) (acc : Int) (i : Int) p) (c, ((acc + nl (s.drop i) : Nat) : Int), p) := by
  have hK : inK IntKind.i64 (↑(ByteArray.size (bs s)) : Int) = true := by
    rw [size_bs]; exact inK_nat (by show s.length ≤ 4611686018427387904; omega)
  intro k
  induction k with
  | zero =>
    intro i acc hi ha
    refine Eu.succ (fun n => S.law03_TreeCounts_l0.eq_2 ..) (Eu.t hK (Eu.f (decide_eq_false (by rw [size_bs]; omega)) (Eu.ret ?_)))
    rw [List.drop_eq_nil_of_le (by omega)]; rfl
  | succ k ih =>
    intro i acc hi ha
    have hlt : i < s.length := by omega
    have hg : Option.getD (Array.toList (ByteArray.data (bs s)))[Int.toNat (i : Int)]? 0 = s[i] := by
      have : Array.toList (ByteArray.data (bs s)) = s := bl_bs s
      rw [this, nat_get hlt]; rfl
    rw [List.drop_eq_getElem_cons hlt] at ha ⊢
    refine Eu.succ (fun n => S.law03_TreeCounts_l0.eq_2 ..) (Eu.t hK (Eu.t (decide_eq_true (by rw [size_bs]; omega)) (Eu.t (by rw [size_bs]; exact inR hlt) ?_)))
    rw [hg, wrap_s (show i < 4611686018427387904 by omega)]
    by_cases h10 : s[i] = 10
    · have e : nl (s[i] :: s.drop (i + 1)) = 1 + nl (s.drop (i + 1)) := by rw [h10]; simp [nl]; omega
      rw [e] at ha ⊢
      refine Eu.t (by rw [h10]; rfl) ?_
      rw [wrap_s (show acc < 4611686018427387904 by omega)]
      refine (ih (i + 1) (acc + 1) (by omega) (by omega)).cast ?_
      rw [Nat.add_assoc]
    · rw [nl_cons _ h10] at ha ⊢
      refine Eu.f ?_ (ih (i + 1) acc (by omega) ha)
      refine beq_false_of_ne fun h => h10 ?_
      exact UInt8.toNat_inj.1 (by
        have : (10 : UInt8).toNat = 10 := rfl
        omega)
mutual
theorem endsS_le : ∀ s : TreeStmt, endsS s ≤ 2 * cntS s
  | ⟨k, t, nm, fn, es, b, c⟩ => by
    have h1 := endsL_le b
    have h2 := endsL_le c
    have h3 : (if k = 4 then (bif c.isEmpty then 1 else 2) else if k = 5 then 1 else 0) ≤ 2 := by
      split
      · cases c.isEmpty <;> decide
      · split <;> decide
    simp only [endsS, cntS]; omega
theorem endsL_le : ∀ l : List TreeStmt, endsL l ≤ 2 * cntL l
  | [] => Nat.le_refl _
  | s :: l => by
    have h1 := endsS_le s
    have h2 := endsL_le l
    simp only [endsL, cntL]; omega
end
theorem eu_ends_l0 {l : List TreeStmt} (hl : l.length ≤ 1000) (hb : ∀ s ∈ l, (s.Kind = 4 → s.Else.length ≤ 100) ∧ Eu (fun n => S.law03_ends n s.Body) (endsL s.Body : Int) ∧ Eu (fun n => S.law03_ends n s.Else) (endsL s.Else : Int)) :
    ∀ (k i acc : Nat), i + k = l.length → acc + endsL (l.drop i) ≤ 2000000000 → Eu (fun n => S.law03_ends_l0 n l (acc : Int) (i : Int)) ((acc + endsL (l.drop i) : Nat) : Int) := by
  have hK : inK IntKind.i64 (↑(List.length (List.map TreeStmt.v l)) : Int) = true := inK_map (Nat.le_trans hl (by decide))
  intro k
  induction k with
  | zero =>
    intro i acc hi _
    refine Eu.succ (fun n => S.law03_ends_l0.eq_2 ..) (Eu.t hK (Eu.f (decide_eq_false (by simp only [List.length_map]; omega)) (Eu.ret ?_)))
    rw [List.drop_eq_nil_of_le (by omega)]; rfl
  | succ k ih =>
    intro i acc hi ha
    have hlt : i < l.length := by omega
    obtain ⟨h0, h1, h2⟩ := hb _ (List.getElem_mem hlt)
    rw [List.drop_eq_getElem_cons hlt] at ha ⊢
    have hE : ∀ s : TreeStmt, endsS s = (if s.Kind = 4 then (bif s.Else.isEmpty then 1 else 2) else if s.Kind = 5 then 1 else 0) + endsL s.Body + endsL s.Else := fun s => by cases s; rfl
    simp only [endsL, hE] at ha ⊢
    have next : ∀ m : Nat, m ≤ 2 → m + endsL l[i].Body + endsL l[i].Else + endsL (l.drop (i + 1)) + acc ≤ 2000000000 → ∀ {a : Int}, a = ((acc + m : Nat) : Int) → Eu (fun n => (S.law03_ends n l[i].Body).bind fun x => (S.law03_ends n l[i].Else).bind fun y => S.law03_ends_l0 n l (IntKind.wrap IntKind.i64 (IntKind.wrap IntKind.i64 (a + x) + y)) (IntKind.wrap IntKind.i64 ((i : Int) + 1))) ((acc + (m + endsL l[i].Body + endsL l[i].Else + endsL (l.drop (i + 1))) : Nat) : Int) := fun m hm hle a hae => by
      subst hae
      refine Eu.bd h1 (Eu.bd h2 ?_)
      have e1 : IntKind.wrap .i64 (((acc + m : Nat) : Int) + (endsL l[i].Body : Int)) = ((acc + m + endsL l[i].Body : Nat) : Int) := wrapN _ (by omega) (by omega)
      have e2 : IntKind.wrap .i64 (((acc + m + endsL l[i].Body : Nat) : Int) + (endsL l[i].Else : Int)) = ((acc + m + endsL l[i].Body + endsL l[i].Else : Nat) : Int) := wrapN _ (by omega) (by omega)
      rw [e1, e2, wrap_s (show i < 4611686018427387904 by omega)]
      refine (ih (i + 1) _ (by omega) (by omega)).cast ?_
      congr 1; omega
    refine Eu.succ (fun n => S.law03_ends_l0.eq_2 ..) (Eu.t hK (Eu.t (decide_eq_true (by simp only [List.length_map]; omega)) (Eu.t (inRm hlt) (Eu.bs (nat_get hlt) ?_))))
    have w1 : ∀ a : Nat, a ≤ 2000000000 → IntKind.wrap .i64 ((a : Int) + 1) = ((a + 1 : Nat) : Int) := fun a h => wrapN _ (by omega) (by omega)
    by_cases h4 : l[i].Kind = 4
    · rw [if_pos h4] at ha ⊢
      refine Eu.t (by simp [h4]) (Eu.t (inK_map (Nat.le_trans (h0 h4) (by decide))) ?_)
      cases hc : l[i].Else with
      | nil =>
        rw [hc] at ha
        have nx := next 1 (by decide) (by rw [hc]; simp only [List.isEmpty_nil, cond_true] at ha; omega) (w1 acc (by omega))
        rw [hc] at nx
        exact Eu.f rfl nx
      | cons c0 cs =>
        rw [hc] at ha
        simp only [List.isEmpty_cons, cond_false] at ha
        have ew : IntKind.wrap IntKind.i64 (IntKind.wrap IntKind.i64 ((acc : Int) + 1) + 1) = ((acc + 2 : Nat) : Int) := by rw [w1 acc (by omega), w1 (acc + 1) (by omega)]
        have nx := next 2 (by decide) (by rw [hc]; omega) ew
        rw [hc] at nx
        exact Eu.t (decide_eq_true (by simp)) nx
    · rw [if_neg h4] at ha ⊢
      refine Eu.f (by simp [h4]) ?_
      by_cases h5 : l[i].Kind = 5
      · rw [if_pos h5] at ha ⊢
        exact Eu.t (by simp [h5]) (next 1 (by decide) (by omega) (w1 acc (by omega)))
      · rw [if_neg h5] at ha ⊢
        exact Eu.f (by simp [h5]) (next 0 (by decide) (by omega) rfl)
theorem eu_ends_of {l : List TreeStmt} (hl : l.length ≤ 1000) (hb : ∀ s ∈ l, (s.Kind = 4 → s.Else.length ≤ 100) ∧ Eu (fun n => S.law03_ends n s.Body) (endsL s.Body : Int) ∧ Eu (fun n => S.law03_ends n s.Else) (endsL s.Else : Int)) (hbd : endsL l ≤ 1000000000) :
    Eu (fun n => S.law03_ends n l) (endsL l : Int) := by
  refine Eu.succ (fun n => S.law03_ends.eq_2 ..) (Eu.bd (a := (endsL l : Int)) ?_ (Eu.ret rfl))
  have := eu_ends_l0 hl hb l.length 0 0 (by omega) (by simp only [List.drop_zero]; omega)
  simp only [List.drop_zero, Nat.zero_add] at this
  exact this
theorem eu_ends_nil : Eu (fun n => S.law03_ends n []) ((endsL [] : Nat) : Int) := eu_ends_of (by simp) (fun s h => by simp at h) (by simp [endsL])
theorem eu_ends : ∀ (d : Nat) (l : List TreeStmt), d ≤ 3 → l.length ≤ 1000 → (∀ s ∈ l, WS d s) → Eu (fun n => S.law03_ends n l) (endsL l : Int) := by
  intro d
  have bd : ∀ (d : Nat) (l : List TreeStmt), d ≤ 3 → l.length ≤ 1000 → (∀ s ∈ l, WS d s) → endsL l ≤ 1000000000 := fun d l hd hl hw => by
    have h1 := cntL_ws hw hd hl
    have h2 := endsL_le l
    omega
  induction d with
  | zero =>
    intro l hd hl hw
    refine eu_ends_of hl (fun s hs => ?_) (bd 0 l hd hl hw)
    have := hw s hs
    generalize hz : 0 = z at this
    cases this <;> first
      | exact ⟨fun h => by simp, eu_ends_nil, eu_ends_nil⟩
      | (exfalso; omega)
  | succ d ih =>
    intro l hd hl hw
    refine eu_ends_of hl (fun s hs => ?_) (bd (d + 1) l hd hl hw)
    cases hw s hs with
    | ifs _ t e b c ht he hb hc wb wc => exact ⟨fun _ => by show c.length ≤ 100; omega, ih b (by omega) (by omega) wb, ih c (by omega) (by omega) wc⟩
    | whil _ t e b ht he hb wb => exact ⟨fun _ => by simp, ih b (by omega) (by omega) wb, eu_ends_nil⟩
    | _ => exact ⟨fun _ => by simp, eu_ends_nil, eu_ends_nil⟩
def wantL : List TreeFunc → Nat
  | [] => 0
  | f :: l => (3 + cntL f.Body + endsL f.Body) + wantL l
theorem eu_want {c : Bool} {ln : Int} {p : TreeProg} (hl : p.Funcs.length ≤ 10) (hf : ∀ f ∈ p.Funcs, FK f) : ∀ (k i acc : Nat), i + k = p.Funcs.length → acc + wantL (p.Funcs.drop i) ≤ 2000000000 →
    Eu (fun n => S.law03_TreeCounts_l1 n c ln (acc : Int) (i : Int) p) (c, ln, ((acc + wantL (p.Funcs.drop i) : Nat) : Int), p) := by
  have hK : inK IntKind.i64 (↑(List.length (List.map TreeFunc.v p.Funcs)) : Int) = true := inK_map (Nat.le_trans hl (by decide))
  intro k
  induction k with
  | zero =>
    intro i acc hi _
    refine Eu.succ (fun n => S.law03_TreeCounts_l1.eq_2 ..) (Eu.t hK (Eu.f (decide_eq_false (by simp only [List.length_map]; omega)) (Eu.ret ?_)))
    rw [List.drop_eq_nil_of_le (by omega)]; rfl
  | succ k ih =>
    intro i acc hi ha
    have hlt : i < p.Funcs.length := by omega
    have hk := hf _ (List.getElem_mem hlt)
    rw [List.drop_eq_getElem_cons hlt] at ha ⊢
    simp only [wantL] at ha ⊢
    refine Eu.succ (fun n => S.law03_TreeCounts_l1.eq_2 ..) (Eu.t hK (Eu.t (decide_eq_true (by simp only [List.length_map]; omega)) (Eu.t (inRm hlt) (Eu.bs (nat_get hlt) (Eu.bd (eu_count 2 _ (by decide) (by have := hk.len; omega) hk.body) (Eu.bd (eu_ends 2 _ (by decide) (by have := hk.len; omega) hk.body) ?_))))))
    have e1 : IntKind.wrap .i64 ((acc : Int) + 3) = ((acc + 3 : Nat) : Int) := wrapN _ (by omega) (by omega)
    have e2 : IntKind.wrap .i64 (((acc + 3 : Nat) : Int) + (cntL p.Funcs[i].Body : Int)) = ((acc + 3 + cntL p.Funcs[i].Body : Nat) : Int) := wrapN _ (by omega) (by omega)
    have e3 : IntKind.wrap .i64 (((acc + 3 + cntL p.Funcs[i].Body : Nat) : Int) + (endsL p.Funcs[i].Body : Int)) = ((acc + 3 + cntL p.Funcs[i].Body + endsL p.Funcs[i].Body : Nat) : Int) := wrapN _ (by omega) (by omega)
    rw [e1, e2, e3, wrap_s (show i < 4611686018427387904 by omega)]
    refine (ih (i + 1) _ (by omega) (by omega)).cast ?_
    have : acc + 3 + cntL p.Funcs[i].Body + endsL p.Funcs[i].Body + wantL (p.Funcs.drop (i + 1)) = acc + (3 + cntL p.Funcs[i].Body + endsL p.Funcs[i].Body + wantL (p.Funcs.drop (i + 1))) := by omega
    rw [this]
/-- A function's lines. -/
theorem nl_funT {nm : ByteArray} {par : List ByteArray} {vars : List TreeDecl} {b : List TreeStmt} (hf : FK ⟨nm, par, vars, b⟩) (h1 : nl (bl nm) = 0) (h2 : nl (bl (jnB par)) = 0) (h3 : nl (bl (jnB (vars.map declB))) = 0) : nl (funT ⟨nm, par, vars, b⟩) = 3 + cntL b + endsL b := by
  have hb := nl_txtL (d := 1) b fun s hs => nl_txtS (hf.body s hs) 1
  rw [funT, nl_app, nl_app, nl_app, hb, nl_lineT, nl_lineT, nl_lineT]
  · omega
  · intro p hp
    simp only [List.mem_cons, List.not_mem_nil, or_false] at hp
    subst hp; rfl
  · intro p hp
    simp only [List.mem_cons, List.not_mem_nil, or_false] at hp
    rcases hp with rfl | rfl | rfl
    · rfl
    · exact h3
    · rfl
  · intro p hp
    simp only [List.mem_cons, List.not_mem_nil, or_false] at hp
    rcases hp with rfl | rfl | rfl | rfl | rfl
    · rfl
    · exact h1
    · rfl
    · exact h2
    · rfl
theorem Pure.TreeCounts {H : Type} {d0 : DataW H} (a0 : Law03Code) (g0 : Law03Code.gd a0 d0) : ∃ n, S.law03_TreeCounts n a0 = some true := by
  obtain ⟨ds0, _, _, _, ⟨_, _, hl0⟩, ⟨_, _, hg0⟩⟩ := g0
  have hm : maxLen ≤ 9223372036854775807 := by decide
  obtain ⟨x0, r0, b0, b1, b2, rfl, hb0, hb1, hb2⟩ := eu_own (P := a0.P) (Nat.le_trans hl0.1 hm) (Nat.le_trans hg0.1 hm)
  have hk := made_fk hb0 hb1 hb2
  have hF : (madeX b0 b1 b2).Funcs = [⟨{ data := #[103] }, PAR0, VAR0, b0⟩, ⟨{ data := #[104] }, PAR1, VAR1, b1⟩, ⟨{ data := #[109, 97, 105, 110] }, [], VAR2, b2⟩] := rfl
  have hnl : nl (madeT b0 b1 b2) = wantL (madeX b0 b1 b2).Funcs := by
    have k0 := hk ⟨{ data := #[103] }, PAR0, VAR0, b0⟩ (by rw [hF]; simp)
    have k1 := hk ⟨{ data := #[104] }, PAR1, VAR1, b1⟩ (by rw [hF]; simp)
    have k2 := hk ⟨{ data := #[109, 97, 105, 110] }, [], VAR2, b2⟩ (by rw [hF]; simp)
    rw [madeT, hF]
    simp only [List.flatMap_cons, List.flatMap_nil, List.append_nil, nl_app, wantL]
    rw [nl_funT k0 (by decide +kernel) (by decide +kernel) (by decide +kernel), nl_funT k1 (by decide +kernel) (by decide +kernel) (by decide +kernel), nl_funT k2 (by decide +kernel) (by decide +kernel) (by decide +kernel)]
    rfl
  have hlen : (madeT b0 b1 b2).length ≤ 150000000 := by
    have k0 := funT_len (hk ⟨{ data := #[103] }, PAR0, VAR0, b0⟩ (by rw [hF]; simp))
    have k1 := funT_len (hk ⟨{ data := #[104] }, PAR1, VAR1, b1⟩ (by rw [hF]; simp))
    have k2 := funT_len (hk ⟨{ data := #[109, 97, 105, 110] }, [], VAR2, b2⟩ (by rw [hF]; simp))
    rw [madeT, hF]
    simp only [List.flatMap_cons, List.flatMap_nil, List.append_nil, List.length_append]; omega
  have hcnt : nl (madeT b0 b1 b2) ≤ 150000000 := Nat.le_trans (List.count_le_length ..) hlen
  refine Eu.get (Eu.eq (fun n => rfl) (Eu.bd r0 (Eu.bd (eu_PutX hb0 hb1 hb2) (Eu.bd (a := (true, ((nl (madeT b0 b1 b2) : Nat) : Int), madeX b0 b1 b2)) ?_ (Eu.bd (a := (true, ((nl (madeT b0 b1 b2) : Nat) : Int), ((wantL (madeX b0 b1 b2).Funcs : Nat) : Int), madeX b0 b1 b2)) ?_ (Eu.t rfl (Eu.ret ?_)))))))
  · have := eu_lines (c := true) (p := madeX b0 b1 b2) (s := madeT b0 b1 b2) (by omega) (madeT b0 b1 b2).length 0 0 (by omega) (by simp only [List.drop_zero]; omega)
    simp only [List.drop_zero, Nat.zero_add] at this
    exact this
  · have := eu_want (c := true) (ln := ((nl (madeT b0 b1 b2) : Nat) : Int)) (p := madeX b0 b1 b2) (show 3 ≤ 10 by decide) hk (madeX b0 b1 b2).Funcs.length 0 0 (by omega) (by simp only [List.drop_zero]; omega)
    simp only [List.drop_zero, Nat.zero_add] at this
    exact this
  · rw [hnl]; exact beq_self_eq_true _
end Go.Im
