/- The ideal machine: a drawn region, whatever order is drawn. -/
import Derived.Test.YtalnancndjgmgaaGreatDoorImDraw
namespace Go.Im
set_option linter.unusedVariables false
set_option linter.unusedSimpArgs false
def numF : List Bool → Nat
  | [] => 0
  | b :: l => (if b then 0 else 1) + numF l
theorem numF_set : ∀ (l : List Bool) (i : Nat), l[i]? = some false → numF (l.set i true) + 1 = numF l
  | [], i, h => by simp at h
  | b :: l, 0, h => by simp at h; subst h; simp [numF]; omega
  | b :: l, i + 1, h => by
    have := numF_set l i (by simpa using h)
    simp only [List.set_cons_succ, numF]
    omega
theorem numF_zero : ∀ (l : List Bool), numF l = 0 → ∀ i, i < l.length → l[i]? = some true
  | [], _, i, hi => by simp at hi
  | b :: l, h, i, hi => by
    simp only [numF] at h
    cases b with
    | false => simp at h
    | true =>
      cases i with
      | zero => rfl
      | succ i => simpa using numF_zero l (by simpa using h) i (by simpa using hi)
theorem numF_rep : ∀ n, numF (List.replicate n false) = n
  | 0 => rfl
  | n + 1 => by simp only [List.replicate_succ, numF, numF_rep n]; simp; omega
theorem ready_spec {ops : Array Oper} {listed : Array Bool} {i : Nat} (hs : listed.size = ops.size) (h : i ∈ Region.ready .any ops listed) :
    ∃ o, ops[i]? = some o ∧ i < ops.size ∧ listed.getD i false = false ∧ ∀ e ∈ o.after, Region.binds .any e = true → listed.getD e.on false = true := by
  unfold Region.ready at h
  obtain ⟨h1, h2⟩ := List.mem_filter.1 h
  have hi : i < ops.size := List.mem_range.1 h1
  simp only [Bool.and_eq_true, Bool.not_eq_true'] at h2
  obtain ⟨h3, h4⟩ := h2
  refine ⟨ops[i], Array.getElem?_eq_getElem hi, hi, ?_, fun e he hb => ?_⟩
  · simpa [Array.getD_eq_getD_getElem?, Array.getElem?_eq_getElem (show i < listed.size by omega)] using h3
  · rw [Array.getElem?_eq_getElem hi] at h4
    simp only [Option.map_some, Option.getD_some] at h4
    have := Array.all_eq_true_iff_forall_mem.1 h4 e he
    simpa [hb] using this
theorem ready_nil {ops : Array Oper} {listed : Array Bool} (hs : listed.size = ops.size) (he : edgesOk 0 ops.toList = true) (h : Region.ready .any ops listed = []) : ∀ i, i < ops.size → listed.getD i false = true := by
  intro i
  induction i using Nat.strongRecOn with
  | _ i ih =>
    intro hi
    cases hl : listed.getD i false with
    | true => rfl
    | false =>
      have : i ∈ Region.ready .any ops listed := by
        unfold Region.ready
        refine List.mem_filter.2 ⟨List.mem_range.2 hi, ?_⟩
        simp only [Bool.and_eq_true, Bool.not_eq_true']
        refine ⟨?_, ?_⟩
        · simpa [Array.getD_eq_getD_getElem?, Array.getElem?_eq_getElem (show i < listed.size by omega)] using hl
        · rw [Array.getElem?_eq_getElem hi]
          simp only [Option.map_some, Option.getD_some]
          rw [Array.all_eq_true_iff_forall_mem]
          intro e hem
          cases hb : Region.binds .any e with
          | false => rfl
          | true =>
            have := edgesOk_spec ops.toList 0 he i ops[i] (by simp [Array.getElem?_eq_getElem hi]) e hem hb
            simp only [Bool.not_true, Bool.false_or]
            exact ih e.on (by omega) (by omega)
      rw [h] at this
      simp at this
theorem last_done {n : Nat} (D wr : Nat → Bool) : ∀ (m : Nat) (k0 : Nat), k0 < m → D k0 = true → wr k0 = true → ∃ k, k < m ∧ k0 ≤ k ∧ D k = true ∧ wr k = true ∧ ∀ {α : Type} (seq : Nat → α), cD seq wr D m = seq (k + 1)
  | 0, k0, h, _, _ => by omega
  | m + 1, k0, h, h1, h2 => by
    cases hm : (D m && wr m) with
    | true =>
      have hm' := hm
      simp only [Bool.and_eq_true] at hm'
      exact ⟨m, by omega, by omega, hm'.1, hm'.2, fun seq => by simp [cD, hm]⟩
    | false =>
      have hk : k0 < m := by
        rcases Nat.lt_or_ge k0 m with h3 | h3
        · exact h3
        · have : k0 = m := by omega
          subst this
          rw [h1, h2] at hm; cases hm
      obtain ⟨k, g1, g2, g3, g4, g5⟩ := last_done (n := n) D wr m k0 hk h1 h2
      exact ⟨k, by omega, g2, g3, g4, fun seq => by simp only [cD, hm]; exact g5 seq⟩
theorem drawn_ok {E : Env} (hE : EnvOk E) {ops : Array Oper} {st st' : St} {log : Log} (h : runDrawn E ops st.H.length 0 ops.toList { st with H := st.H ++ List.replicate ops.size none } = some (st', log)) {qs : List Prop} (hok : drawP E.P ops log = some qs) (hqs : allP qs) (ho : st'.ob)
    {X : Cr} {w : World} {a : Act} {Q : Exit → Act → World → Prop} (hst : StR E.P X w st.T st.H a)
    (hQ : ∀ X' w' a', StR E.P X' w' st'.T st'.H a' → Step X w (lookH st.H) X' w' (lookH st'.H) → Q .normal a' w') : wpAny E.P .any ops Q ops.size (Array.replicate ops.size false) a w := by
  unfold drawP at hok
  dsimp only at hok
  split at hok
  case h_2 => cases hok
  rename_i hpre
  have hclash := hok
  simp only [Bool.and_eq_true] at hpre
  obtain ⟨⟨hedges, htmp⟩, hguards⟩ := hpre
  obtain ⟨S, hS0, hSn, hF0⟩ := facts ops.toList 0 _ st' log h
  simp only [Nat.zero_add] at hF0 hSn
  have hn : ops.toList.length = ops.size := by simp
  rw [hn] at hSn
  have hF : ∀ j o, ops[j]? = some o → Fact E ops st.H.length S j o log[j]? := fun j o hj => hF0 j o (by simpa using hj)
  have hlt : ∀ {j : Nat} {o : Oper}, ops[j]? = some o → j < ops.size := fun hj => (Array.getElem?_eq_some_iff.1 hj).1
  have hlen : ∀ j, j ≤ ops.size → (S j).T.length = st.T.length ∧ (S j).H.length = st.H.length + ops.size := by
    intro j
    induction j with
    | zero => intro _; rw [hS0]; simp
    | succ j ih =>
      intro hj
      obtain ⟨h1, h2⟩ := ih (by omega)
      have hjo : ops[j]? = some ops[j] := Array.getElem?_eq_getElem (by omega)
      obtain ⟨g1, g2, _⟩ := fact_len (hF j _ hjo) (by rw [h2]; omega)
      exact ⟨by rw [g1, h1], by rw [g2, h2]⟩
  have hobs : ∀ k, k ≤ ops.size → (S (ops.size - k)).ob := by
    intro k
    induction k with
    | zero => intro _; rw [Nat.sub_zero, hSn]; exact ho
    | succ k ih =>
      intro hk
      have hjo : ops[ops.size - (k + 1)]? = some ops[ops.size - (k + 1)] := Array.getElem?_eq_getElem (by omega)
      have := (fact_len (hF _ _ hjo) (by rw [(hlen _ (by omega)).2]; omega)).2.2
      rw [show ops.size - (k + 1) + 1 = ops.size - k by omega] at this
      exact this (ih (by omega))
  have hob : ∀ j, j ≤ ops.size → (S j).ob := fun j hj => by
    have := hobs (ops.size - j) (by omega)
    rwa [show ops.size - (ops.size - j) = j by omega] at this
  have hsT : ∀ t k, k < ops.size → slotAt ops t k = false → (S (k + 1)).T[t]? = (S k).T[t]? := by
    intro t k hk hw
    have hko : ops[k]? = some ops[k] := Array.getElem?_eq_getElem hk
    refine fact_slot (hF k _ hko) ?_
    intro hd
    simp [slotAt, hko, hd] at hw
  have hsH : ∀ id k, k < ops.size → wrAt log id k = false → lookH (S (k + 1)).H id = lookH (S k).H id := by
    intro id k hk hw
    have hko : ops[k]? = some ops[k] := Array.getElem?_eq_getElem hk
    exact fact_id (hF k _ hko) (by rw [(hlen k (by omega)).2]; omega) hw
  have hlogsub : ∀ j l, j < ops.size → log[j]? = some l → ∀ x ∈ l.w, x ∈ l.f := by
    intro j l hj hl x hx
    obtain ⟨c, ps, ob, _, ⟨_, r, _, _, _, _, hlg⟩ | ⟨_, _, hlg⟩⟩ := hF j _ (Array.getElem?_eq_getElem hj)
    · rw [hl] at hlg; cases hlg; exact List.mem_append_left _ hx
    · rw [hl] at hlg; cases hlg; simp at hx
  have hlogsome : ∀ j, j < ops.size → ∃ l, log[j]? = some l ∧ l.H = (S (j + 1)).H := by
    intro j hj
    obtain ⟨c, ps, ob, _, ⟨_, r, _, _, _, _, hlg⟩ | ⟨_, _, hlg⟩⟩ := hF j _ (Array.getElem?_eq_getElem hj)
    · exact ⟨_, hlg, rfl⟩
    · exact ⟨_, hlg, rfl⟩
  -- two that touch the same place stand in an order, or the first one is a load of what stays
  have clashOrd : ∀ i k li lk, i < k → k < ops.size → log[i]? = some li → log[k]? = some lk → (∃ x, (x ∈ li.w ∧ x ∈ lk.f) ∨ (x ∈ lk.w ∧ x ∈ li.f)) → ((Region.before ops).getD k 0).testBit i = true ∨ (li.w = [] ∧ ∃ s, li.sf = some s ∧ softP E.P s lk.H) := by
    intro i k li lk hik hk hi hk' ⟨x, hx⟩
    cases hb : ((Region.before ops).getD k 0).testBit i with
    | true => exact .inl rfl
    | false =>
      rcases clash_spec log 0 _ hclash hqs k lk hk' (hlogsub k lk hk hk') i li (by omega) hi (by simpa using hb) (hlogsub i li (by omega) hi) with ⟨g1, g2⟩ | hs
      · rcases hx with ⟨h1, h2⟩ | ⟨h1, h2⟩
        · exact absurd h2 (g2 x h1)
        · exact absurd h2 (g1 x h1)
      · exact .inr hs
  let CT : (Nat → Bool) → Nat → Option V := fun D t => cD (fun j => (S j).T[t]?) (slotAt ops t) D ops.size
  let CH : (Nat → Bool) → Look := fun D id => cD (fun j => lookH (S j).H id) (wrAt log id) D ops.size
  have hdone : ∀ (listed : Array Bool) (X1 : Cr) (w1 : World) (a1 : Act), (∀ i, i < ops.size → listed.getD i false = true) →
      (a1.tmps.size = st.T.length ∧ ∀ t v, CT (fun i => listed.getD i false) t = some v → ∃ x, a1.tmps[t]? = some x ∧ X1.vr w1 v x) → Quiet E.P a1.defers →
      (∀ id, ¬ X1.ρ.no id → id < st.H.length + ops.size ∧ (st.H.length ≤ id → listed.getD (id - st.H.length) false = true)) →
      Step X w (lookH st.H) X1 w1 (CH (fun i => listed.getD i false)) → Q .normal a1 w1 := by
    intro listed X1 w1 a1 hall hsr hdef hdom hstep
    have hCT : ∀ t, CT (fun i => listed.getD i false) t = st'.T[t]? := fun t => by
      have := cD_at (seq := fun j => (S j).T[t]?) (wr := slotAt ops t) (D := fun i => listed.getD i false) (hsT t) (Nat.le_refl ops.size) (fun k hk _ => hall k hk) (fun k h1 h2 => by omega)
      show cD _ _ _ _ = _
      rw [this, hSn]
    have hCH : CH (fun i => listed.getD i false) = lookH st'.H := by
      funext id
      have := cD_at (seq := fun j => lookH (S j).H id) (wr := wrAt log id) (D := fun i => listed.getD i false) (hsH id) (Nat.le_refl ops.size) (fun k hk _ => hall k hk) (fun k h1 h2 => by omega)
      show cD _ _ _ _ = _
      rw [this, hSn]
    have hl := hlen ops.size (Nat.le_refl _)
    rw [hSn] at hl
    rw [hCH] at hstep
    exact hQ X1 w1 a1 ⟨⟨by rw [hl.1, hsr.1], fun t v ht => hsr.2 t v (by rw [hCT]; exact ht)⟩, hstep.rel, fun id hp => Classical.byContradiction fun hno => by have := (hdom id hno).1; rw [hl.2] at hp; omega, hdef⟩ hstep
  have main : ∀ (fuel : Nat) (listed : Array Bool) (X1 : Cr) (w1 : World) (a1 : Act), listed.size = ops.size → numF listed.toList = fuel →
      (∀ j o, ops[j]? = some o → listed.getD j false = true → ∀ e ∈ o.after, Region.binds .any e = true → listed.getD e.on false = true) →
      (a1.tmps.size = st.T.length ∧ ∀ t v, CT (fun i => listed.getD i false) t = some v → ∃ x, a1.tmps[t]? = some x ∧ X1.vr w1 v x) → Quiet E.P a1.defers →
      (∀ id, ¬ X1.ρ.no id → id < st.H.length + ops.size ∧ (st.H.length ≤ id → listed.getD (id - st.H.length) false = true)) →
      Step X w (lookH st.H) X1 w1 (CH (fun i => listed.getD i false)) → wpAny E.P .any ops Q fuel listed a1 w1 := by
    intro fuel
    induction fuel with
    | zero =>
      intro listed X1 w1 a1 hls hnum hcl hsr hdef hdom hstep
      have hall : ∀ i, i < ops.size → listed.getD i false = true := by
        intro i hi
        have := numF_zero listed.toList hnum i (by simpa [hls] using hi)
        simp only [Array.getElem?_toList] at this
        simp [Array.getD_eq_getD_getElem?, this]
      refine ⟨?_, hdone listed X1 w1 a1 hall hsr hdef hdom hstep⟩
      cases hr : Region.ready .any ops listed with
      | nil => rfl
      | cons i is =>
        obtain ⟨o, _, hin, hli, _⟩ := ready_spec (i := i) hls (by rw [hr]; simp)
        rw [hall i hin] at hli
        cases hli
    | succ fuel ih =>
      intro listed X1 w1 a1 hls hnum hcl hsr hdef hdom hstep
      refine ⟨fun hnil => hdone listed X1 w1 a1 (ready_nil hls hedges hnil) hsr hdef hdom hstep, fun i hi => ?_⟩
      obtain ⟨o, hio, hin, hli, hed⟩ := ready_spec hls hi
      have hD' : ∀ k, (listed.setIfInBounds i true).getD k false = (listed.getD k false || k == i) := by
        intro k
        simp only [Array.getD_eq_getD_getElem?]
        by_cases hk : k = i
        · subst hk
          rw [Array.getElem?_setIfInBounds_self_of_lt (by omega)]
          simp
        · rw [Array.getElem?_setIfInBounds_ne (fun h => hk h.symm)]
          have : (k == i) = false := by simpa using hk
          simp [this]
      have hcl' : ∀ j o', ops[j]? = some o' → (listed.setIfInBounds i true).getD j false = true → ∀ e ∈ o'.after, Region.binds .any e = true → (listed.setIfInBounds i true).getD e.on false = true := by
        intro j o' hj hDj e he hb
        rw [hD'] at hDj ⊢
        simp only [Bool.or_eq_true, beq_iff_eq] at hDj ⊢
        rcases hDj with h1 | h1
        · exact .inl (hcl j o' hj h1 e he hb)
        · subst h1
          rw [hio] at hj
          cases hj
          exact .inl (hed e he hb)
      have hbelow : ∀ k, k ≠ i → ((Region.before ops).getD i 0).testBit k = true → listed.getD k false = true := by
        intro k hk hb
        have := before_closed (D := fun k => (listed.setIfInBounds i true).getD k false) hcl' hin (by rw [hD']; simp) hb
        simp only [hD'] at this
        simpa [hk] using this
      have habove : ∀ k, k < ops.size → ((Region.before ops).getD k 0).testBit i = true → listed.getD k false = false := by
        intro k hk hb
        cases hDk : listed.getD k false with
        | false => rfl
        | true =>
          have := before_closed (D := fun k => listed.getD k false) hcl hk hDk hb
          simp only [hli] at this
          cases this
      have slotOrd : ∀ t k, t ∈ namesOf o → k < ops.size → k ≠ i → slotAt ops t k = true → (k < i → listed.getD k false = true) ∧ (i < k → listed.getD k false = false) := by
        intro t k ht hk hne hw
        have hko : ops[k]? = some ops[k] := Array.getElem?_eq_getElem hk
        have hd : (ops[k]).dst = some t := by simpa [slotAt, hko] using hw
        have hb := temporaries_spec htmp hko hio ht hd hne
        refine ⟨fun hlt => hbelow k hne ?_, fun hlt => habove k hk ?_⟩
        · rwa [show max k i = i by omega, show min k i = k by omega] at hb
        · rwa [show max k i = k by omega, show min k i = i by omega] at hb
      have slotAtI : ∀ t, t ∈ namesOf o → CT (fun i => listed.getD i false) t = (S i).T[t]? := by
        intro t ht
        refine cD_at (seq := fun j => (S j).T[t]?) (hsT t) (Nat.le_of_lt hin) (fun k hk hw => (slotOrd t k ht (by omega) (by omega) hw).1 hk) (fun k h1 h2 hw => ?_)
        by_cases hki : k = i
        · subst hki; exact hli
        · exact (slotOrd t k ht h2 hki hw).2 (by omega)
      let TD : List V := (List.range st.T.length).map fun t => (CT (fun i => listed.getD i false) t).getD .any
      have hTDlen : TD.length = st.T.length := by simp [TD]
      have hTDget : ∀ t, t < st.T.length → TD[t]? = some ((CT (fun i => listed.getD i false) t).getD .any) := by
        intro t ht
        simp only [TD]
        rw [List.getElem?_map, List.getElem?_range ht, Option.map_some]
      have hTDeq : ∀ t, CT (fun i => listed.getD i false) t = (S i).T[t]? → TD[t]? = (S i).T[t]? := by
        intro t heq
        have hl := (hlen i (Nat.le_of_lt hin)).1
        by_cases ht : t < st.T.length
        · rw [hTDget t ht, heq, List.getElem?_eq_getElem (by omega)]
          rfl
        · rw [List.getElem?_eq_none (by rw [hTDlen]; omega), List.getElem?_eq_none (by omega)]
      have hSR : SR X1 w1 TD a1 := by
        refine ⟨by rw [hTDlen, hsr.1], fun t v ht => ?_⟩
        have htl : t < st.T.length := by rw [← hTDlen]; exact (List.getElem?_eq_some_iff.1 ht).1
        rw [hTDget t htl] at ht
        cases hct : CT (fun i => listed.getD i false) t with
        | some u =>
          rw [hct] at ht
          cases ht
          exact hsr.2 t _ hct
        | none =>
          rw [hct] at ht
          cases ht
          exact ⟨a1.tmps[t]'(by rw [hsr.1]; exact htl), Array.getElem?_eq_getElem _, .imm _ _ (.any _)⟩
      have hwant : ∀ ps ob, wantedV ops TD o ps ob = wantedV ops (S i).T o ps ob := by
        intro ps ob
        unfold wantedV
        cases hg : o.guard with
        | none => rfl
        | some gw =>
          obtain ⟨g, want⟩ := gw
          obtain ⟨⟨e, he, heg, hbe⟩, tg, htg, hone⟩ := guardsOk_spec ops.toList hguards i o (by simpa using hio) g want hg
          have hgi : g < i := by
            have := edgesOk_spec ops.toList 0 hedges i o (by simpa using hio) e he hbe
            omega
          have hwr : ∀ k, k < ops.size → slotAt ops tg k = true → k = g := by
            intro k hk hw
            have hko : ops[k]? = some ops[k] := Array.getElem?_eq_getElem hk
            have hd : (ops[k]).dst = some tg := by simpa [slotAt, hko] using hw
            have := oneWriter_spec ops.toList 0 hone k ops[k] (by simp [hko]) hd
            omega
          have heq : CT (fun i => listed.getD i false) tg = (S i).T[tg]? := by
            refine cD_at (seq := fun j => (S j).T[tg]?) (hsT tg) (Nat.le_of_lt hin) (fun k hk hw => ?_) (fun k h1 h2 hw => ?_)
            · have := hwr k (by omega) hw
              subst this
              have := hed e he hbe
              rw [heg] at this
              exact this
            · have := hwr k h2 hw
              omega
          have := hTDeq tg heq
          simp only [htg, Option.bind_some, this]
      -- what each slot holds behind it
      have next : ∀ (v : V) (x : Value) (X2 : Cr) (w2 : World), (S (i + 1)).T = putT (S i).T o.dst v → X2.vr w2 v x → (∀ u y, X1.vr w1 u y → X2.vr w2 u y) →
          ((a1.put o.dst x).tmps.size = st.T.length ∧ ∀ t u, CT (fun k => (listed.setIfInBounds i true).getD k false) t = some u → ∃ y, (a1.put o.dst x).tmps[t]? = some y ∧ X2.vr w2 u y) := by
        intro v x X2 w2 hS1 hv hext
        refine ⟨by cases hd : o.dst <;> simp [Act.put, hsr.1], fun t u ht => ?_⟩
        have hadd := cD_add (seq := fun j => (S j).T[t]?) (wr := slotAt ops t) (D := fun i => listed.getD i false) (D' := fun k => (listed.setIfInBounds i true).getD k false) (n := ops.size) hin hD' (fun hwi k hik hk hw => by
          have hd : o.dst = some t := by simpa [slotAt, hio] using hwi
          exact (slotOrd t k (by simp [namesOf, hd]) hk (by omega) hw).2 hik)
        have ht' : (if slotAt ops t i then (S (i + 1)).T[t]? else CT (fun i => listed.getD i false) t) = some u := by rw [← hadd]; exact ht
        cases hwi : slotAt ops t i with
        | true =>
          have hd : o.dst = some t := by simpa [slotAt, hio] using hwi
          rw [hwi, if_pos rfl, hS1, hd] at ht'
          simp only [putT] at ht'
          have hl := (hlen i (Nat.le_of_lt hin)).1
          rw [List.getElem?_set] at ht'
          simp only [if_true] at ht'
          split at ht'
          · rename_i htl
            cases ht'
            exact ⟨x, by rw [hd]; simp only [Act.put]; rw [Array.getElem?_setIfInBounds_self_of_lt (by rw [hsr.1]; omega)], hv⟩
          · cases ht'
        | false =>
          rw [hwi] at ht'
          simp only [Bool.false_eq_true, if_false] at ht'
          obtain ⟨y, hy, hvy⟩ := hsr.2 t u ht'
          refine ⟨y, ?_, hext u y hvy⟩
          have hne : o.dst ≠ some t := by
            intro hd
            simp [slotAt, hio, hd] at hwi
          cases hd : o.dst with
          | none => exact hy
          | some d => simp only [Act.put]; rw [Array.getElem?_setIfInBounds_ne (fun h => hne (by rw [hd, h]))]; exact hy
      have hnum' : numF (listed.setIfInBounds i true).toList = fuel := by
        have := numF_set listed.toList i (by
          have h1 : listed[i]? = some listed[i] := Array.getElem?_eq_getElem (by omega)
          simp only [Array.getElem?_toList, h1]
          simpa [Array.getD_eq_getD_getElem?, h1] using hli)
        rw [Array.toList_setIfInBounds]
        omega
      have hls' : (listed.setIfInBounds i true).size = ops.size := by simpa using hls
      have hadd : ∀ id l, log[i]? = some l → CH (fun k => (listed.setIfInBounds i true).getD k false) id = if l.w.contains id then lookH (S (i + 1)).H id else CH (fun i => listed.getD i false) id := by
        intro id l hlg
        have := cD_add (seq := fun j => lookH (S j).H id) (wr := wrAt log id) (D := fun i => listed.getD i false) (D' := fun k => (listed.setIfInBounds i true).getD k false) (n := ops.size) hin hD' (fun hwi k hik hk hw => by
          obtain ⟨lk, hlk, _⟩ := hlogsome k hk
          simp only [wrAt, hlg] at hwi
          simp only [wrAt, hlk] at hw
          rcases clashOrd i k l lk hik hk hlg hlk ⟨id, .inl ⟨by simpa using hwi, hlogsub k lk hk hlk id (by simpa using hw)⟩⟩ with h1 | ⟨h1, _⟩
          · exact habove k hk h1
          · rw [h1] at hwi; simp at hwi)
        have e1 : wrAt log id i = l.w.contains id := by simp [wrAt, hlg]
        rw [e1] at this
        exact this
      unfold wpOp
      simp only [hio]
      obtain ⟨c, ps, ob, hw, ⟨rfl, r, hr, hinH, hnew, hS1, hlg⟩ | ⟨rfl, hS1, hlg⟩⟩ := hF i o hio
      · have hro : r.ob := by have := hob (i + 1) (by omega); rw [hS1] at this; exact this
        have hob1 := iopS_ob hr hro
        have hops : ∀ x ∈ o.op.operands, ev TD x = ev (S i).T x := fun x hx => by
          cases x with
          | tmp t =>
            exact hTDeq t (slotAtI t (by
              simp only [namesOf]
              exact List.mem_append_right _ (List.mem_filterMap.2 ⟨.tmp t, by simpa using hx, rfl⟩)))
          | _ => rfl
        have hlow : ∀ id ∈ r.fp, ∀ k, k < i → wrAt log id k = true → listed.getD k false = true := fun id hid k hk hwk => by
          have hidf : id ∈ wrOf r (st.H.length + i) ++ r.fp := List.mem_append_right _ hid
          obtain ⟨lk, hlk, _⟩ := hlogsome k (by omega)
          simp only [wrAt, hlk] at hwk
          rcases clashOrd k i lk _ hk hin hlk hlg ⟨id, .inl ⟨by simpa using hwk, hidf⟩⟩ with h1 | ⟨h1, _⟩
          · exact hbelow k (by omega) h1
          · rw [h1] at hwk; simp at hwk
        have hiop : iopS E ops i TD (CH (fun i => listed.getD i false)) (st.H.length + i) o ps ob = some r := by
          by_cases hall : ∀ id ∈ r.fp, ∀ k, i < k → k < ops.size → wrAt log id k = true → listed.getD k false = false
          · refine iopS_local hr hops fun id hid => ?_
            refine cD_at (seq := fun j => lookH (S j).H id) (hsH id) (Nat.le_of_lt hin) (fun k hk hwk => hlow id hid k hk hwk) (fun k h1 h2 hwk => ?_)
            by_cases hki : k = i
            · subst hki; exact hli
            · exact hall id hid k (by omega) h2 hwk
          · -- a later one is done: the last of these
            simp only [Classical.not_forall] at hall
            obtain ⟨id, hid, k0, hk1, hk2, hkw, hkd⟩ := hall
            have hkd' : listed.getD k0 false = true := by simpa using hkd
            obtain ⟨k, q1, q2, q3, q4, q5⟩ := last_done (n := 0) (fun i => listed.getD i false) (wrAt log id) ops.size k0 hk2 hkd' hkw
            have hik : i < k := by omega
            have hCk : CH (fun i => listed.getD i false) id = lookH (S (k + 1)).H id := q5 _
            obtain ⟨lk, hlk, hlkH⟩ := hlogsome k q1
            have hwk := q4
            simp only [wrAt, hlk] at hwk
            rcases clashOrd i k _ lk hik q1 hlg hlk ⟨id, .inr ⟨by simpa using hwk, List.mem_append_right _ hid⟩⟩ with h1 | ⟨_, s, hs, hsp⟩
            · have := habove k q1 h1
              rw [q3] at this; cases this
            · obtain ⟨f1, f2⟩ := soft_local (T' := TD) (l' := CH (fun i => listed.getD i false)) hs hr
              refine f2 hops ?_
              have hids : id = s.id := by rw [f1] at hid; simpa using hid
              rw [← hids, hCk]
              rw [hlkH] at hsp
              unfold softP at hsp
              rw [← hids] at hsp
              split at hsp
              · rename_i b hb
                split at hsp
                · rename_i hsy
                  split at hsp
                  · rename_i e he
                    exact ⟨b, hb, hsy, e, he, hsp⟩
                  · exact hsp.elim
                · exact hsp.elim
              · exact hsp.elim
        have hwv := (wanted_ok hSR (by rw [hwant]; exact hw) hob1).2
        rw [hwv, if_pos rfl]
        refine .inl ((iopS_does hE hstep.rel hSR hiop hro (fun k hk1 hk2 => ?_)).2 _ _ fun X2 w2 x hg => ?_)
        · have hki : k = st.H.length + i := by omega
          subst hki
          refine Classical.byContradiction fun hρ => ?_
          have := (hdom _ hρ).2 (by omega)
          rw [show st.H.length + i - st.H.length = i by omega, hli] at this
          cases this
        · have hbh : newL (updL (CH (fun i => listed.getD i false)) r.upd) (st.H.length + i) r.new = CH (fun k => (listed.setIfInBounds i true).getD k false) := by
            funext id
            rw [hadd id _ hlg]
            have hl2 := (hlen i (Nat.le_of_lt hin)).2
            cases hc : (wrOf r (st.H.length + i)).contains id with
            | true =>
              rw [if_pos rfl, hS1]
              dsimp only
              rw [(putD_look hinH hnew (by omega)).1]
              exact behind_hit hnew _ _ (by simpa using hc)
            | false =>
              simp only [Bool.false_eq_true, if_false]
              exact behind_miss hnew _ (by simpa using hc)
          refine ih (listed.setIfInBounds i true) X2 w2 _ hls' hnum' hcl' (next r.v x X2 w2 (by rw [hS1]) hg.val fun u y hu => hu.ext hg.step.toExt) (by rw [put_defers]; exact hdef) (fun id hp => ?_) ?_
          · by_cases h12 : st.H.length + i ≤ id ∧ id < st.H.length + i + r.new.length
            case neg =>
              obtain ⟨q1, q2⟩ := hdom id fun h1 => hp (hg.dom id h1 h12)
              refine ⟨q1, fun hle => ?_⟩
              rw [hD', q2 hle]
              rfl
            case pos =>
              have : id = st.H.length + i := by omega
              subst this
              refine ⟨by omega, fun _ => ?_⟩
              rw [hD', show st.H.length + i - st.H.length = i by omega]
              simp
          · rw [← hbh]
            exact Step.trans hst.rel hstep hg.step
      · have hob1 : ob := by have := hob (i + 1) (by omega); rw [hS1] at this; exact this
        have hwv := (wanted_ok hSR (by rw [hwant]; exact hw) hob1).2
        rw [hwv]
        simp only [Bool.false_eq_true, if_false]
        refine ih (listed.setIfInBounds i true) X1 w1 _ hls' hnum' hcl' (next (.tup []) undef X1 w1 (by rw [hS1]) (.imm _ _ (.tup [] #[] rfl fun j v x h => by simp at h)) fun u y hu => hu) (by rw [put_defers]; exact hdef) (fun id hp => ?_) ?_
        · obtain ⟨q1, q2⟩ := hdom id hp
          refine ⟨q1, fun hle => ?_⟩
          rw [hD', q2 hle]
          rfl
        · have : CH (fun k => (listed.setIfInBounds i true).getD k false) = CH (fun i => listed.getD i false) := by
            funext id
            rw [hadd id _ hlg]
            simp
          rw [this]
          exact hstep
  have hrep : ∀ k, (Array.replicate ops.size false).getD k false = false := by
    intro k
    simp only [Array.getD_eq_getD_getElem?, Array.getElem?_replicate]
    split <;> rfl
  have hCT0 : ∀ t, CT (fun i => (Array.replicate ops.size false).getD i false) t = st.T[t]? := fun t => by
    have := cD_at (seq := fun j => (S j).T[t]?) (wr := slotAt ops t) (D := fun i => (Array.replicate ops.size false).getD i false) (hsT t) (Nat.zero_le ops.size) (fun k hk => by omega) (fun k _ _ _ => hrep k)
    show cD _ _ _ _ = _
    rw [this, hS0]
  have hCH0 : CH (fun i => (Array.replicate ops.size false).getD i false) = lookH st.H := by
    funext id
    have := cD_at (seq := fun j => lookH (S j).H id) (wr := wrAt log id) (D := fun i => (Array.replicate ops.size false).getD i false) (hsH id) (Nat.zero_le ops.size) (fun k hk => by omega) (fun k _ _ _ => hrep k)
    show cD _ _ _ _ = _
    rw [this, hS0]
    dsimp only
    rw [lookH_new]
    simp only [newL]
    split
    · rename_i hle
      rw [List.getElem?_replicate]
      split
      · rename_i b hb
        split at hb
        · cases hb; exact (lookH_none hle).symm
        · cases hb
      · rfl
    · rfl
  refine main ops.size (Array.replicate ops.size false) X w a (by simp) (by simp [numF_rep]) (fun j o hj hD => ?_) ⟨hst.sr.len.symm, fun t v hv => ?_⟩ hst.defers (fun id hp => ?_) ?_
  · rw [hrep] at hD; cases hD
  · rw [hCT0] at hv; exact hst.sr.at_ t v hv
  · have : id < st.H.length := Classical.byContradiction fun h => hp (hst.dom id (by omega))
    exact ⟨by omega, fun hle => by omega⟩
  · rw [hCH0]; exact Step.refl hst.rel
end Go.Im
