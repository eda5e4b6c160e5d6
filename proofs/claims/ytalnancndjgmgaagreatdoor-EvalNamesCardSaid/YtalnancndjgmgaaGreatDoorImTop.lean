/- The ideal machine: what it says of a call is so in the model. -/
import Derived.Test.YtalnancndjgmgaaGreatDoorImExec
namespace Go.Im
set_option linter.unusedVariables false
set_option linter.unusedSimpArgs false
mutual
theorem ren_id {f : Nat → Option Nat} (hf : ∀ id j, f id = some j → j = id) : ∀ v : V, okV f v = true → ren f v = v
  | .mptr id i off, h => by
    simp only [okV] at h
    obtain ⟨j, hj⟩ := Option.isSome_iff_exists.1 h
    simp [ren, hj, hf id j hj]
  | .msl id i len, h => by
    simp only [okV] at h
    obtain ⟨j, hj⟩ := Option.isSome_iff_exists.1 h
    simp [ren, hj, hf id j hj]
  | .osl d id, h => by
    simp only [okV] at h
    obtain ⟨j, hj⟩ := Option.isSome_iff_exists.1 h
    simp [ren, hj, hf id j hj]
  | .agg cs, h => by simp only [okV] at h; simp [ren, renL_id hf cs h]
  | .tup cs, h => by simp only [okV] at h; simp [ren, renL_id hf cs h]
  | .fn k a b, h => by simp only [okV, Bool.and_eq_true] at h; simp [ren, renL_id hf a h.1, renL_id hf b h.2]
  | .ifc t v, h => by simp only [okV] at h; simp [ren, ren_id hf v h]
  | .any, _ => rfl
  | .opq, _ => rfl
  | .bool _ _, _ => rfl
  | .int _ _ _, _ => rfl
  | .str _ _, _ => rfl
  | .nilp, _ => rfl
  | .nils, _ => rfl
  | .nilf, _ => rfl
  | .nili, _ => rfl
  | .iptr _ _, _ => rfl
  | .isl _ _, _ => rfl
theorem renL_id {f : Nat → Option Nat} (hf : ∀ id j, f id = some j → j = id) : ∀ vs : List V, okVs f vs = true → renL f vs = vs
  | [], _ => rfl
  | v :: vs, h => by simp only [okVs, Bool.and_eq_true] at h; simp [renL, ren_id hf v h.1, renL_id hf vs h.2]
end
theorem okVs_get {f : Nat → Option Nat} : ∀ {vs : List V}, okVs f vs = true → ∀ {k : Nat} {z : V}, vs[k]? = some z → okV f z = true
  | [], _, k, z, h => by simp at h
  | v :: vs, h, k, z, hk => by
    simp only [okVs, Bool.and_eq_true] at h
    cases k with
    | zero => simp at hk; subst hk; exact h.1
    | succ k => exact okVs_get h.2 (by simpa using hk)
theorem okV_cells {f : Nat → Option Nat} {e : V} (h : okV f e = true) {j : Nat} {u : V} (hj : e.cells[j]? = some u) : okV f u = true := by
  cases e with
  | agg cs => exact okVs_get (by simpa [okV] using h) (by simpa [V.cells] using hj)
  | _ =>
    cases j with
    | zero => simp [V.cells] at hj; subst hj; exact h
    | succ j => simp [V.cells] at hj
theorem below_id (n id j : Nat) (h : below n id = some j) : j = id ∧ id < n := by
  unfold below at h
  split at h
  · cases h; exact ⟨rfl, by assumption⟩
  · cases h
def Cr.under (X : Cr) (n : Nat) : Cr := ⟨X.own, ⟨fun id => if id < n then X.ρ id else none, fun id => if id < n then X.ρ.n id else none⟩⟩
theorem under_vr {X : Cr} {w : World} {n : Nat} {v : V} {x : Value} (hv : X.vr w v x) (h : okV (below n) v = true) : (X.under n).vr w v x := by
  have := ren_vr (f := below n) (ρ' := (X.under n).ρ) (fun id j p hj hp => by
    obtain ⟨rfl, hlt⟩ := below_id n id j hj
    simp [Cr.under, hlt, hp]) (fun id j p hj hp => by
    obtain ⟨rfl, hlt⟩ := below_id n id j hj
    simp [Cr.under, hlt, hp]) hv
  rwa [ren_id (fun id j hj => (below_id n id j hj).1) v h] at this
theorem allOk_get {n : Nat} : ∀ {H : Heap}, allOk n H = true → ∀ {id : Nat} {B : Blk}, H[id]? = some (some B) → blkOk (below n) (some B) = true
  | [], _, id, B, h => by simp at h
  | b :: H, h, id, B, hi => by
    simp only [allOk, Bool.and_eq_true] at h
    cases id with
    | zero => simp at hi; subst hi; exact h.1
    | succ id => exact allOk_get h.2 (by simpa using hi)
/-- Blocks that nobody knows of are left out. -/
theorem cut_step {X X1 : Cr} {w w1 : World} {l : Look} {H : Heap} {n0 : Nat} (hX : ∀ id, n0 ≤ id → X.ρ.no id) (h : Step X w l X1 w1 (lookH H)) {v : V} {x : Value} (hv : X1.vr w1 v x) (hdom : ∀ id, H.length ≤ id → X1.ρ.no id) :
    ∃ X', Step X w l X' w1 (lookH (cut n0 v H)) ∧ X'.vr w1 v x ∧ ∀ id, (cut n0 v H).length ≤ id → X'.ρ.no id := by
  unfold cut
  split
  · rename_i hc
    simp only [Bool.and_eq_true] at hc
    obtain ⟨hok, hall⟩ := hc
    have hlk : ∀ id B, lookH (H.take n0) id = some B → lookH H id = some B ∧ id < n0 ∧ (H.take n0)[id]? = some (some B) := by
      intro id B hB
      simp only [lookH] at hB ⊢
      split at hB
      · rename_i b hb
        subst hB
        have hb' := hb
        rw [List.getElem?_take] at hb'
        split at hb'
        · exact ⟨by rw [hb'], by assumption, hb⟩
        · cases hb'
      · cases hB
    refine ⟨X1.under n0, { os := h.os, tape := h.tape, output := h.output, size := h.size, rho := fun id p hp => ?_, rhon := fun id p hp => ?_, keep := h.keep, own := h.own, still := h.still, shape := h.shape, rel := ⟨fun id B hB => ?_, fun i j Bi Bj p q hi hj hp hq hpq => ?_, h.rel.lt, h.rel.gl⟩, nl := fun b hb => ?_ }, under_vr hv hok, fun id hp => ?_⟩
    · have : id < n0 := Classical.byContradiction fun hn => by rw [show X.ρ id = none from (hX id (by omega)).1] at hp; cases hp
      simp [Cr.under, this, h.rho id p hp]
    · have : id < n0 := Classical.byContradiction fun hn => by rw [(hX id (by omega)).2] at hp; cases hp
      simp [Cr.under, this, h.rhon id p hp]
    · obtain ⟨h1, h2, h3⟩ := hlk id B hB
      rcases h.rel.blk id B h1 with hg | ⟨b, s, c, e, hρ, ho, hb, hrow, hty, hls⟩
      · exact .inl (hg.mono (by simp [Cr.under, h2]) fun x hx => by simp [Cr.under, h2, hx])
      refine .inr ⟨b, s, c, e, by simp [Cr.under, h2, hρ], ho, hb, fun k f hk => ?_, hty, hls.mono fun x hx => by simp [Cr.under, h2, hx]⟩
      obtain ⟨r1, r2⟩ := hrow k f hk
      refine ⟨r1, fun j u hj => ?_⟩
      obtain ⟨y, hy, hvy, hs⟩ := r2 j u hj
      refine ⟨y, hy, ?_, hs⟩
      cases hsym : B.sym with
      | true => exact .imm _ _ (hs hsym)
      | false =>
        have hbo := allOk_get hall h3
        simp only [blkOk, hsym] at hbo
        exact under_vr hvy (okV_cells (okVs_get hbo hk) hj)
    · obtain ⟨h1, h2, _⟩ := hlk i Bi hi
      obtain ⟨h1', h2', _⟩ := hlk j Bj hj
      simp only [Cr.under, h2, h2', if_true] at hp hq
      exact h.rel.inj i j Bi Bj p q h1 h1' hp hq hpq
    · obtain ⟨id, B, s, z, hB, hρ⟩ := hb
      obtain ⟨h1, h2, _⟩ := hlk id B hB
      simp only [Cr.under, h2, if_true] at hρ
      exact h.nl b ⟨id, B, s, z, h1, hρ⟩
    · by_cases hlt : id < n0
      · have hno := hdom id (by simp at hp; omega)
        exact ⟨by simp only [Cr.under, hlt, if_true]; exact hno.1, by simp only [Cr.under, hlt, if_true]; exact hno.2⟩
      · exact ⟨by simp [Cr.under, hlt], by simp [Cr.under, hlt]⟩
  · exact ⟨X1, h, hv, hdom⟩
theorem labH_len (n : Nat) (q : List Nat) (H : Heap) : (labH n q H).length = n + q.length := by simp [labH]
theorem labH_get {n : Nat} {q : List Nat} {H : Heap} {i : Nat} {B' : Blk} (h : lookH (labH n q H) i = some B') :
    ∃ id B, lookH H id = some B ∧ B' = renB (labF n q) true B ∧ ((i < n ∧ id = i ∧ q.contains i = false) ∨ (n ≤ i ∧ q[i - n]? = some id)) := by
  have hh : (labH n q H)[i]? = some (some B') := by
    simp only [lookH] at h
    split at h
    · rename_i b hb; subst h; exact hb
    · cases h
  unfold labH at hh
  by_cases hi : i < n
  · rw [List.getElem?_append_left (by simpa using hi), List.getElem?_map, List.getElem?_range hi, Option.map_some, Option.some.injEq] at hh
    split at hh
    · cases hh
    · rename_i hq
      obtain ⟨B, hB, rfl⟩ := Option.map_eq_some_iff.1 hh
      exact ⟨i, B, hB, rfl, .inl ⟨hi, rfl, hq⟩⟩
  · rw [List.getElem?_append_right (by simp; omega), List.getElem?_map] at hh
    simp only [List.length_map, List.length_range] at hh
    obtain ⟨id, hid, hb⟩ := Option.map_eq_some_iff.1 hh
    obtain ⟨B, hB, rfl⟩ := Option.map_eq_some_iff.1 hb
    exact ⟨id, B, hB, rfl, .inr ⟨by omega, hid⟩⟩
theorem lab_step {X X1 : Cr} {w w1 : World} {H H1 : Heap} (h0 : RelL X w (lookH H)) (hdom : ∀ id, H.length ≤ id → X.ρ.no id) (hs : Step X w (lookH H) X1 w1 (lookH H1)) {q : List Nat} (hq : q.Nodup) :
    ∃ X', Step X w (lookH H) X' w1 (lookH (labH H.length q H1)) ∧ (∀ (v : V) (x : Value), X1.vr w1 v x → X'.vr w1 (ren (labF H.length q) v) x) ∧ ∀ id, (labH H.length q H1).length ≤ id → X'.ρ.no id := by
  let X' : Cr := ⟨X1.own, ⟨fun i => if i < H.length then X1.ρ.r i else (q[i - H.length]?).bind X1.ρ.r, fun i => if i < H.length then X1.ρ.n i else (q[i - H.length]?).bind X1.ρ.n⟩⟩
  have hlow : ∀ i, i < H.length → X'.ρ.r i = X1.ρ.r i ∧ X'.ρ.n i = X1.ρ.n i := fun i h => ⟨by show (if _ then _ else _) = _; rw [if_pos h], by show (if _ then _ else _) = _; rw [if_pos h]⟩
  have hhigh : ∀ i id, H.length ≤ i → q[i - H.length]? = some id → X'.ρ.r i = X1.ρ.r id ∧ X'.ρ.n i = X1.ρ.n id := fun i id h hi =>
    ⟨by show (if _ then _ else _) = _; rw [if_neg (by omega), hi]; rfl, by show (if _ then _ else _) = _; rw [if_neg (by omega), hi]; rfl⟩
  have hlab : ∀ id j, labF H.length q id = some j → X'.ρ.r j = X1.ρ.r id ∧ X'.ρ.n j = X1.ρ.n id := by
    intro id j h
    unfold labF at h
    split at h
    · rename_i k hk
      cases h
      exact hhigh _ id (by omega) (by rw [Nat.add_sub_cancel_left]; exact indexOf_some hq hk)
    · split at h
      · cases h; exact hlow id (by assumption)
      · cases h
  have hren : ∀ (v : V) (x : Value), X1.vr w1 v x → X'.vr w1 (ren (labF H.length q) v) x := fun v x hv =>
    ren_vr (fun id j p hj hp => by rw [(hlab id j hj).1]; exact hp) (fun id j p hj hp => by rw [(hlab id j hj).2]; exact hp) hv
  have hlt : ∀ id, ¬ X.ρ.no id → id < H.length := fun id h => Classical.byContradiction fun h' => h (hdom id (by omega))
  have hE : Ext X w (lookH H) X' w1 := by
    refine ⟨hs.os, hs.tape, hs.output, hs.size, fun id p hp => ?_, fun id p hp => ?_, hs.keep, hs.own, hs.still, hs.shape⟩
    · rw [(hlow id (hlt id fun h => by rw [show X.ρ id = none from h.1] at hp; cases hp)).1]
      exact hs.rho id p hp
    · rw [(hlow id (hlt id fun h => by rw [h.2] at hp; cases hp)).2]
      exact hs.rhon id p hp
  have hplace : ∀ (i id : Nat), ((i < H.length ∧ id = i ∧ q.contains i = false) ∨ (H.length ≤ i ∧ q[i - H.length]? = some id)) → X'.ρ.r i = X1.ρ.r id ∧ X'.ρ.n i = X1.ρ.n id := by
    intro i id h
    rcases h with ⟨h1, rfl, _⟩ | ⟨h1, h2⟩
    · exact hlow _ h1
    · exact hhigh i id h1 h2
  refine ⟨X', { toExt := hE, rel := ⟨fun i B' hB' => ?_, fun i j Bi Bj p r hi hj hp hr hpr => ?_, hs.rel.lt, h0.gl.ext hE⟩, nl := fun b hb => ?_ }, hren, fun id hid => ?_⟩
  · obtain ⟨id, B, hB, rfl, hpl⟩ := labH_get hB'
    obtain ⟨q1, q2⟩ := hplace i id hpl
    exact renB_blk (hs.rel.blk id B hB) q1 q2 (fun b s z _ ho => ⟨ho, rfl⟩) fun c s hrow => renB_row hrow hren fun v x h => h
  · obtain ⟨id, B, hB, rfl, hpl⟩ := labH_get hi
    obtain ⟨id', B', hB', rfl, hpl'⟩ := labH_get hj
    rw [show X'.ρ i = X1.ρ id from (hplace i id hpl).1] at hp
    rw [show X'.ρ j = X1.ρ id' from (hplace j id' hpl').1] at hr
    have := hs.rel.inj id id' B B' p r hB hB' hp hr hpr
    subst this
    rcases hpl with ⟨h1, rfl, h3⟩ | ⟨h1, h2⟩ <;> rcases hpl' with ⟨h1', h2', h3'⟩ | ⟨h1', h2'⟩
    · exact h2'
    · have := List.mem_of_getElem? h2'
      simp [this] at h3
    · have := List.mem_of_getElem? h2
      rw [← h2'] at h3'
      simp [this] at h3'
    · have := nodup_inj hq h2 h2'
      omega
  · obtain ⟨i, B', s, z, hi, hρ⟩ := hb
    obtain ⟨id, B, hB, rfl, hpl⟩ := labH_get hi
    rw [show X'.ρ i = X1.ρ id from (hplace i id hpl).1] at hρ
    exact hs.nl b ⟨id, B, s, z, hB, hρ⟩
  · rw [labH_len] at hid
    have hn : q[id - H.length]? = none := List.getElem?_eq_none (by omega)
    exact ⟨by show (if _ then _ else _) = _; rw [if_neg (by omega), hn]; rfl, by show (if _ then _ else _) = _; rw [if_neg (by omega), hn]; rfl⟩
theorem labH_dirty {n : Nat} {q : List Nat} {H : Heap} {i : Nat} {B' : Blk} (h : (labH n q H)[i]? = some (some B')) : B'.dirty = true := by
  obtain ⟨id, B, _, rfl, _⟩ := labH_get (n := n) (q := q) (H := H) (i := i) (B' := B') (by simp [lookH, h])
  rfl
theorem gc_step {X X1 : Cr} {w w1 : World} {H0 H : Heap} (h0 : RelL X w (lookH H0)) (hX : ∀ id, H0.length ≤ id → X.ρ.no id) (h : Step X w (lookH H0) X1 w1 (lookH H)) {v v' : V} {H' : Heap} {x : Value} (hv : X1.vr w1 v x) (hdom : ∀ id, H.length ≤ id → X1.ρ.no id)
    (hg : gc H0.length v H = (v', H')) : ∃ X', Step X w (lookH H0) X' w1 (lookH H') ∧ X'.vr w1 v' x ∧ ∀ id, H'.length ≤ id → X'.ρ.no id := by
  unfold gc at hg
  split at hg
  · rename_i hc
    cases hg
    obtain ⟨X', g1, g2, g3⟩ := cut_step (n0 := H0.length) hX h hv hdom
    have : cut H0.length v H = H.take H0.length := by unfold cut; rw [if_pos hc]
    rw [this] at g1 g3
    exact ⟨X', g1, g2, g3⟩
  · split at hg
    · split at hg
      · rename_i hq
        cases hg
        obtain ⟨X', g1, g2, g3⟩ := lab_step h0 hX h (nodupB_spec hq)
        exact ⟨X', g1, g2 v x hv, g3⟩
      · cases hg; exact ⟨X1, h, hv, hdom⟩
    · cases hg; exact ⟨X1, h, hv, hdom⟩
theorem cut_clean {n0 : Nat} {v : V} {H0 H : Heap} (h : Clean H0 H) : Clean H0 (cut n0 v H) := by
  unfold cut
  split
  · intro j B hj hB hd
    rw [List.getElem?_take] at hB
    split at hB
    · exact h j B hj hB hd
    · cases hB
  · exact h
theorem opLoad_true {P : Program} {l : Look} {t : TypeId} {p : V} {r : Out} (h : opLoad P l t p [] True = some r) : r.ob := by
  have he : ∀ {s : Bool} {xs : List V} {i : Nat} {e : V} {ps' : List Ev} {ob' : Prop}, elemAt s xs i [] True = some (e, ps', ob') → ob' := by
    intro s xs i e ps' ob' h
    unfold elemAt at h
    split at h
    · obtain ⟨x, hx, he⟩ := Option.map_eq_some_iff.1 h; cases he; trivial
    · cases h
  unfold opLoad at h
  split at h
  · split at h
    · cases h; trivial
    · cases h
  · split at h
    · split at h
      · rename_i hx
        split at h
        · cases h; exact he hx
        · cases h
      · cases h
    · cases h
  · cases h
theorem gc_clean {n0 : Nat} {v v' : V} {H0 H H' : Heap} (h : Clean H0 H) (hg : gc n0 v H = (v', H')) : Clean H0 H' := by
  unfold gc at hg
  split at hg
  · rename_i hc
    cases hg
    have : cut n0 v H = H.take n0 := by unfold cut; rw [if_pos hc]
    rw [← this]
    exact cut_clean h
  · split at hg
    · split at hg
      · cases hg
        intro j B hj hB hd
        rw [labH_dirty hB] at hd
        cases hd
      · cases hg; exact h
    · cases hg; exact h
theorem res_ok {P : Program} {X : Cr} {w : World} {T : List V} {H : Heap} {a : Act} (hs : SR X w T a) (hl : RelL X w (lookH H)) (g : ResultVar → Sem Value) (hg1 : ∀ t, g (.tmp t) = pure (a.tmps.getD t undef))
    (hg2 : ∀ c t, g (.cell c t) = asAddr (a.tmps.getD c undef) >>= fun ad => loadVar t ad) : ∀ (rs : List ResultVar) (vs : List V), resV P T (lookH H) rs = some vs →
    ∃ xs : List Value, (rs.mapM g).run P w = .ok xs w ∧ vs.length = xs.length ∧
      ∀ (j : Nat) (v : V) (x : Value), vs[j]? = some v → xs[j]? = some x → X.vr w v x
  | [], vs, h => by simp only [resV] at h; cases h; exact ⟨[], by simp, rfl, fun j v x h => by simp at h⟩
  | .tmp t :: rs, vs, h => by
    simp only [resV] at h
    split at h
    · rename_i v vs' h1 h2
      cases h
      obtain ⟨xs, g1, g2, g3⟩ := res_ok hs hl g hg1 hg2 rs vs' h2
      obtain ⟨x, hx, hv⟩ := hs.at_ t v h1
      refine ⟨x :: xs, ?_, by simp [g2], fun j u y hj hy => ?_⟩
      · have hgd : a.tmps.getD t undef = x := by simp [Array.getD_eq_getD_getElem?, hx]
        simp only [List.mapM_cons, Sem.run_bind, Sem.run_pure, Result.andThen_ok, g1, hgd, hg1]
      · cases j with
        | zero => simp at hj hy; subst hj hy; exact hv
        | succ j => exact g3 j u y (by simpa using hj) (by simpa using hy)
    · cases h
  | .cell c t :: rs, vs, h => by
    simp only [resV] at h
    split at h
    · rename_i p hp
      split at h
      · rename_i r vs' h1 h2
        cases h
        obtain ⟨xs, g1, g2, g3⟩ := res_ok hs hl g hg1 hg2 rs vs' h2
        obtain ⟨x, hx, hv⟩ := hs.at_ c p hp
        obtain ⟨_, _, _, y, hy, hvy⟩ := load_run hl h1 hv (opLoad_true h1)
        refine ⟨y :: xs, ?_, by simp [g2], fun j u z hj hz => ?_⟩
        · have hgd : a.tmps.getD c undef = x := by simp [Array.getD_eq_getD_getElem?, hx]
          have hload : (asAddr x >>= fun ad => loadVar t ad).run P w = .ok y w := by
            cases p with
            | iptr e off =>
              obtain ⟨b, o, rfl, _⟩ := iptr_mem (vr_iptr hv)
              simpa [Instr.loadAt, Instr.sureAddr, asAddr] using hy
            | mptr id i off =>
              obtain ⟨b, s, z, _, rfl⟩ := vr_mptr hv
              simpa [Instr.loadAt, Instr.sureAddr, asAddr] using hy
            | _ => simp [opLoad] at h1
          have hload' : ((asAddr x).run P w).andThen (fun a w' => (loadVar t a).run P w') = .ok y w := by rw [← Sem.run_bind]; exact hload
          simp only [List.mapM_cons, Sem.run_bind, hgd, hload', Result.andThen_ok, g1, Sem.run_pure, hg2]
        · cases j with
          | zero => simp at hj hz; subst hj hz; exact hvy
          | succ j => exact g3 j u z (by simpa using hj) (by simpa using hz)
      · cases h
    · cases h
theorem results_ok {P : Program} {X : Cr} {w : World} {T : List V} {H : Heap} {a : Act} (hs : SR X w T a) (hl : RelL X w (lookH H)) {fn : Func} {vs : List V} (h : resV P T (lookH H) fn.results.toList = some vs) :
    ∃ x, (results fn a.tmps).run P w = .ok x w ∧ X.vr w (oneV vs) x := by
  have hg : ∃ g : ResultVar → Sem Value, (∀ t, g (.tmp t) = pure (a.tmps.getD t undef)) ∧ (∀ c t, g (.cell c t) = asAddr (a.tmps.getD c undef) >>= fun ad => loadVar t ad) ∧
      (results fn a.tmps).run P w = (((fn.results.toList.mapM g).run P w).andThen fun r w' => .ok r.toArray w').andThen fun r w' => .ok (if h : r.size = 1 then r[0] else .tuple r) w' := by
    refine ⟨?_, ?q1, ?q2, ?q3⟩
    case q3 =>
      unfold results
      simp only [Array.mapM_eq_mapM_toList, Sem.run_bind, Sem.run_map, Sem.run_pure]
      rfl
    case q1 => exact fun t => rfl
    case q2 => exact fun c t => rfl
  obtain ⟨g, hg1, hg2, hrun⟩ := hg
  obtain ⟨xs, g1, g2, g3⟩ := res_ok hs hl g hg1 hg2 fn.results.toList vs h
  refine ⟨(if h : xs.toArray.size = 1 then xs.toArray[0] else .tuple xs.toArray), ?_, ?_⟩
  · rw [hrun, g1]
    rfl
  · cases vs with
    | nil =>
      have : xs = [] := List.eq_nil_of_length_eq_zero (by rw [← g2]; rfl)
      subst this
      exact .tup [] #[] rfl fun j v x h => by simp at h
    | cons v vs =>
      cases vs with
      | nil =>
        cases xs with
        | nil => simp at g2
        | cons x xs =>
          have : xs = [] := List.eq_nil_of_length_eq_zero (by simpa using g2.symm)
          subst this
          exact g3 0 v x (by simp) (by simp)
      | cons u us =>
        rw [dif_neg (by simp at g2 ⊢; omega)]
        exact .tup _ _ (by simpa using g2) fun j v x hj hx => g3 j v x hj (by simpa using hx)
theorem finish_ok {P : Program} {X X1 : Cr} {w w1 : World} {T : List V} {H0 H : Heap} {a : Act} (h0 : RelL X w (lookH H0)) (hX : ∀ id, H0.length ≤ id → X.ρ.no id) (hst : StR P X1 w1 T H a) (hs : Step X w (lookH H0) X1 w1 (lookH H)) {fn : Func} {keep : Bool} {v : V} {H' : Heap}
    (h : finish P fn keep H0.length T H = some (v, H')) : ∃ X' x, (results fn a.tmps).run P w1 = .ok x w1 ∧ Step X w (lookH H0) X' w1 (lookH H') ∧ X'.vr w1 v x ∧ ∀ id, H'.length ≤ id → X'.ρ.no id := by
  unfold finish at h
  split at h
  · rename_i vs hr
    obtain ⟨x, hx, hv⟩ := results_ok hst.sr hst.rel hr
    split at h
    · obtain ⟨X', g1, g2, g3⟩ := gc_step h0 hX hs hv hst.dom (Option.some.inj h)
      exact ⟨X', x, hx, g1, g2, g3⟩
    · split at h
      · rename_i v' ids hf
        split at h
        · rename_i hin
          obtain ⟨f1, _⟩ := fz_ok hst.rel _ ids 10000 (oneV vs) v' ids hf (fun i hi => hi)
          have h1 := less_step hst.rel ids
          obtain ⟨p1, p2⟩ := lookH_putH _ H hin
          have hlk : lookH (putH H (ids.map (·, none))) = lessL (lookH H) ids := by rw [p1, updL_kills]
          have h2 : Step X w (lookH H0) (X1.less (lookH H) ids) w1 (lookH (putH H (ids.map (·, none)))) := by rw [hlk]; exact Step.trans h0 hs h1
          obtain ⟨X', g1, g2, g3⟩ := gc_step h0 hX h2 (f1 x hv) (fun id hp => by rw [p2] at hp; exact hst.dom id hp) (Option.some.inj h)
          exact ⟨X', x, hx, g1, g2, g3⟩
        · cases h
      · cases h
  · cases h
theorem finish_clean {P : Program} {fn : Func} {keep : Bool} {n0 : Nat} {T : List V} {H0 H H' : Heap} {v : V} (hc : Clean H0 H) (h : finish P fn keep n0 T H = some (v, H')) : Clean H0 H' := by
  unfold finish at h
  split at h
  · split at h
    · exact gc_clean hc (Option.some.inj h)
    · split at h
      · rename_i ids hf
        split at h
        · refine gc_clean (fun j B hj hB hd => hc j B hj (putH_clean _ H (fun u hu B hB => ?_) j B hB hd) hd) (Option.some.inj h)
          obtain ⟨i, _, rfl⟩ := List.mem_map.1 hu
          cases hB
        · cases h
      · cases h
  · cases h
theorem step_below {X : Cr} {w w' : World} {l : Look} (hr : RelL X w l) (hb : RowKit.Below w.heap.size w w') : Step X w l X w' l := by
  have hE : Ext X w l X w' := { os := hb.os, tape := hb.tape, output := hb.output, size := hb.size, rho := fun id p hp => hp, rhon := fun id p hp => hp, keep := fun b hlt _ => hb.block b hlt, own := fun b _ ho => ho, still := fun b ho _ => ho, shape := fun b c e f hc => ⟨c, f, by rw [hb.block b (heap_lt hc)]; exact hc, rfl⟩ }
  refine { toExt := hE, rel := ⟨fun id B hB => ?_, hr.inj, fun b ho => Nat.lt_of_lt_of_le (hr.lt b ho) hb.size, hr.gl.ext hE⟩, nl := fun b h => .inr h }
  rcases hr.blk id B hB with h | h
  · exact .inl h
  · refine .inr (h.ext hE fun b s z hρ => ?_)
    obtain ⟨b', s', c', e', h1, h2, h3, _⟩ := h
    rw [hρ] at h1
    cases h1
    exact ⟨h2, hb.block b (heap_lt h3)⟩
/-- Behind a normal return quiet calls change nothing. -/
theorem leaves_quiet {P : Program} {fn : Func} {tmps : Array Value} {R : Ending → World → Prop} {l : Look} : ∀ (ds : List Deferred) (X : Cr) (w : World), Quiet P ds → RelL X w l →
    (∀ w', Step X w l X w' l → ∃ v, (results fn tmps).run P w' = .ok v w' ∧ R (.returned v) w') → Leaves P fn tmps R ds .returning w
  | [], X, w, _, hr, h => h w (Step.refl hr)
  | d :: ds, X, w, hq, hr, h => by
    obtain ⟨fv, cap, g, xs, h1, h2, h3⟩ := hq d (List.mem_cons_self ..)
    refine ⟨(by intro hc; cases hc), fv, cap, g, xs, h1, h2 w, (h3 w).mono ?_⟩
    rintro e u w1 ⟨⟨v, rfl⟩, rfl, hb⟩
    have hs := step_below hr hb
    exact leaves_quiet ds X w1 (fun d' hd => hq d' (List.mem_cons_of_mem _ hd)) hs.rel fun w2 hs2 => h w2 (Step.trans hr hs hs2)
/-- A function's body, run. -/
theorem sim_of_exec {E : Env} (hE : EnvOk E) {f : FuncId} {fn : Func} {c : Code} (hf : E.P.funcs[f]? = some fn) (hb : fn.body = some c) {args : List V} {H : Heap} {ps : List Ev} {n : Nat} {ex : Ex} {st : St}
    (h : exec E n c ⟨enterV fn args, H, ps, True⟩ = some (ex, st)) (hex : ex = .normal ∨ ex = .ret) (ho : st.ob) {keep : Bool} {v : V} {H' : Heap} (hfin : finish E.P fn keep H.length st.T st.H = some (v, H')) : Sim E.P f args H v H' := by
  obtain ⟨_, h2⟩ := (exec_ok hE n).1 c _ ex st h
  obtain ⟨hc, hl, hw⟩ := h2 ho
  dsimp only at hc hl hw
  refine ⟨finish_clean hc hfin, fun X w xs hrel hdom hlen hx => calls_of_wp_defers hf hb ?_⟩
  refine hw X w _ _ ⟨⟨by simp [enterV, hlen], fun t v' ht => ?_⟩, hrel, hdom, Quiet.nil⟩ fun X1 w1 a1 hst hs => ?_
  · simp only [enterV] at ht
    by_cases h1 : t < args.length
    · rw [List.getElem?_append_left h1] at ht
      have hxt : xs[t]? = some xs[t] := Array.getElem?_eq_getElem (hlen ▸ h1)
      refine ⟨xs[t], ?_, hx t v' _ ht hxt⟩
      dsimp only
      rw [Array.getElem?_append_left (hlen ▸ h1)]
      exact hxt
    · rw [List.getElem?_append_right (by omega), List.getElem?_replicate] at ht
      split at ht
      · cases ht
        refine ⟨undef, ?_, .imm _ _ (.tup [] #[] rfl fun j v x h => by simp at h)⟩
        dsimp only
        rw [Array.getElem?_append_right (by omega), Array.getElem?_replicate, if_pos (by omega)]
      · cases ht
  · have hleave : Leaves E.P fn a1.tmps (fun e w' => ∃ X' x, e = .returned x ∧ Step X w (lookH H) X' w' (lookH H') ∧ X'.vr w' v x ∧ ∀ id, H'.length ≤ id → X'.ρ.no id) a1.defers .returning w1 := by
      refine leaves_quiet a1.defers X1 w1 hst.defers hst.rel fun w2 hs2 => ?_
      obtain ⟨X', x, g1, g2, g3, g4⟩ := finish_ok (a := a1) hrel hdom ⟨⟨hst.sr.len, (hst.sr.ext hs2.toExt).at_⟩, hs2.rel, hst.dom, hst.defers⟩ (Step.trans hrel hs hs2) hfin
      exact ⟨x, g1, X', x, rfl, g2, g3, g4⟩
    rcases hex with rfl | rfl
    · exact hleave
    · exact hleave
/-- Without events nothing is asked. -/
theorem ask_plain {s b c : Bool} {ps' : List Ev} {ob ob' : Prop} (h : ask s b [] ob = some (c, ps', ob')) : ps' = [] ∧ ob' = ob := by
  unfold ask at h
  split at h
  · cases h; exact ⟨rfl, rfl⟩
  · cases h
theorem must_plain {s b : Bool} {ps' : List Ev} {ob ob' : Prop} (h : must s b [] ob = some (ps', ob')) : ps' = [] ∧ ob' = ob := by
  unfold must at h
  split at h
  · rename_i hk; cases h; exact ask_plain hk
  · cases h
theorem cutV_plain {n : Nat} {s s' : Bool} {l h : Option (Bool × Int)} {ps' : List Ev} {ob ob' : Prop} {a b : Nat} (e : cutV n s l h [] ob = some (s', a, b, ps', ob')) : ps' = [] ∧ ob' = ob ∧ s = false := by
  unfold cutV at e
  simp only at e
  split at e
  · rename_i hm
    cases e
    refine ⟨(must_plain hm).1, (must_plain hm).2, ?_⟩
    cases s with
    | false => rfl
    | true => simp [must, ask] at hm
  · cases e
theorem elemAt_plain {s : Bool} {xs : List V} {i : Nat} {ps' : List Ev} {ob ob' : Prop} {e : V} (h : elemAt s xs i [] ob = some (e, ps', ob')) : ps' = [] ∧ ob' = ob := by
  unfold elemAt at h
  split at h
  · obtain ⟨x, hx, he⟩ := Option.map_eq_some_iff.1 h; cases he; exact ⟨rfl, rfl⟩
  · cases h
theorem idxAt_plain {s : Bool} {i k : Nat} {ps' : List Ev} {ob ob' : Prop} (h : idxAt s i [] ob = some (k, ps', ob')) : ps' = [] ∧ ob' = ob := by
  unfold idxAt at h
  split at h
  · cases h; exact ⟨rfl, rfl⟩
  · cases h
def Plain (r : Out) (ob : Prop) : Prop := r.ps = [] ∧ r.ob = ob
theorem opBin_plain {P : Program} {op : BinOp} {t : TypeId} {a b : V} {ob : Prop} {r : Out} (h : opBin P op t a b [] ob = some r) : Plain r ob := by
  unfold opBin at h
  split at h
  · split at h
    · split at h
      · rename_i hm; cases h; exact must_plain hm
      · cases h
    · cases h
  · split at h
    · split at h
      · rename_i hm; cases h; exact must_plain hm
      · cases h
    · cases h
  · split at h
    · rename_i hm; cases h; exact must_plain hm
    · cases h
  · split at h
    · rename_i hm; cases h; exact must_plain hm
    · cases h
  · split at h
    · rename_i hm; cases h; exact must_plain hm
    · cases h
  · split at h
    · split at h
      · split at h
        · cases h; exact ⟨rfl, rfl⟩
        · cases h
      · cases h
    · split at h
      · split at h
        · cases h; exact ⟨rfl, rfl⟩
        · cases h
      · split at h
        · cases h; exact ⟨rfl, rfl⟩
        · cases h
      · cases h
theorem opIndexAddr_plain {P : Program} {l : Look} {t : TypeId} {a b : V} {ob : Prop} {r : Out} (h : opIndexAddr P l t a b [] ob = some r) : Plain r ob := by
  unfold opIndexAddr at h
  split at h
  · split at h
    · rename_i hm
      obtain ⟨rfl, rfl⟩ := must_plain hm
      split at h
      · rename_i he
        split at h
        · cases h; exact elemAt_plain he
        · cases h
      · cases h
    · cases h
  · split at h
    · rename_i hm
      obtain ⟨rfl, rfl⟩ := must_plain hm
      split at h
      · split at h
        · rename_i hk
          split at h
          · cases h; exact idxAt_plain hk
          · cases h
        · cases h
      · cases h
    · cases h
  · split at h
    · split at h
      · rename_i hm
        obtain ⟨rfl, rfl⟩ := must_plain hm
        split at h
        · rename_i hk
          split at h
          · cases h; exact idxAt_plain hk
          · cases h
        · cases h
      · cases h
    · cases h
  · split at h
    · split at h
      · rename_i hm; cases h; exact must_plain hm
      · cases h
    · cases h
  · split at h
    · split at h
      · rename_i hm; cases h; exact must_plain hm
      · cases h
    · cases h
  · cases h
theorem opAppO_plain {P : Program} {nid : Nat} {elem : TypeId} {bs : Bool} {xs ys : List V} {ids js : List Nat} {t : Option TypeId} {s : Bool} {ob : Prop} {r : Out} (h : opAppO P nid elem bs xs ids t s ys js [] ob = some r) : Plain r ob := by
  unfold opAppO at h
  split at h
  · rename_i hm
    split at h
    · cases h; exact must_plain hm
    · cases h
  · cases h
theorem opSlice_plain {P : Program} {l : Look} {t : TypeId} {a : V} {x y : Option (Bool × Int)} {ob : Prop} {r : Out} (h : opSlice P l t a x y [] ob = some r) : Plain r ob := by
  unfold opSlice at h
  simp only at h
  split at h
  · cases h
  · split at h
    · split at h
      · rename_i hc
        obtain ⟨rfl, rfl, rfl⟩ := cutV_plain hc
        simp only at h
        split at h
        · cases h; exact ⟨rfl, rfl⟩
        · cases h
      · cases h
    · split at h
      · rename_i hc hB
        split at h
        · cases h; exact ⟨(cutV_plain hc).1, (cutV_plain hc).2.1⟩
        · cases h
      · cases h
    · split at h
      · rename_i hc; cases h; exact ⟨(cutV_plain hc).1, (cutV_plain hc).2.1⟩
      · cases h
    · cases h
theorem opAppend_plain {P : Program} {nid : Nat} {elem : TypeId} {xs ys : List V} {ids js : List Nat} {s : Bool} {ob : Prop} {r : Out} (h : opAppend P nid elem xs ids s ys js [] ob = some r) : Plain r ob := by
  have main : ∀ (ob : Prop), (match must s (okElems P elem ys && decide (xs.length + ys.length ≤ maxApp)) [] ob with
    | some (ps, ob) =>
      if zeroOk P elem ∧ okElems P elem xs ∧ (ids.all fun i => !js.contains i) then
        some (⟨.msl nid 0 (xs.length + ys.length), ids.map (·, none), [some { es := xs ++ ys, sz := P.cellsOf elem, dirty := true, lty := some elem }], ids ++ js, ps, ob⟩ : Out)
      else none
    | none => none) = some r → Plain r ob := by
    intro ob h
    split at h
    · rename_i hm
      split at h
      · cases h; exact must_plain hm
      · cases h
    · cases h
  unfold opAppend at h
  simp only at h
  split at h
  · split at h
    · rename_i hk
      split at h
      · cases h; exact ask_plain hk
      · cases h
    · rename_i hk
      obtain ⟨rfl, rfl⟩ := ask_plain hk
      exact main _ h
    · cases h
  · exact main _ h
theorem doCall_plain {E : Env} {l : Look} {nid : Nat} {ob : Prop} {f : FuncId} {args : List V} {r : Out} (h : doCall E l nid [] ob f args = some r) : Plain r ob := by
  unfold doCall at h
  split at h
  · cases h
  · simp only [resOf] at h
    split at h
    · cases h
    · split at h
      · split at h
        · unfold fin at h
          split at h
          · cases h; exact ⟨rfl, rfl⟩
          · cases h
        · cases h
      · cases h
theorem iop_plain {E : Env} {T : List V} {l : Look} {nid : Nat} {o : Oper} {ob : Prop} {r : Out} (h : iop E T l nid o [] ob = some r) : Plain r ob := by
  unfold iop at h
  simp only at h
  cases hop : o.op <;> simp only [hop] at h <;> try (cases h; done)
  case pick c x y =>
    split at h
    · split at h
      · rename_i hk; cases h; exact ask_plain hk
      · rename_i hk; cases h; exact ask_plain hk
      · cases h
    · cases h
  case load t x =>
    unfold opLoad at h
    repeat' (split at h)
    all_goals first
      | (cases h; exact ⟨rfl, rfl⟩)
      | (rename_i he _ _ _; cases h; exact elemAt_plain he)
      | (rename_i he _ _; cases h; exact elemAt_plain he)
      | cases h
  case store t x y =>
    unfold opStore at h
    repeat' (split at h)
    all_goals first
      | (cases h; exact ⟨rfl, rfl⟩)
      | cases h
  case binOp op t x y t' =>
    split at h
    · exact opBin_plain h
    · cases h
  case convert s d x =>
    split at h
    · split at h
      · cases h; exact ⟨rfl, rfl⟩
      · cases h
    · split at h
      · cases h; exact ⟨rfl, rfl⟩
      · cases h
    · split at h
      · split at h
        · split at h
          · rename_i hm; cases h; exact must_plain hm
          · cases h
        · cases h
      · cases h
    · repeat' (split at h)
      all_goals first
        | (cases h; exact ⟨rfl, rfl⟩)
        | cases h
    · cases h
  case slice t x lo hi mx =>
    cases mx with
    | some m => cases h
    | none =>
      simp only at h
      split at h
      · split at h
        · exact opSlice_plain h
        · unfold opCut at h
          split at h
          · rename_i hc; cases h; exact ⟨(cutV_plain hc).1, (cutV_plain hc).2.1⟩
          · cases h
        · cases h
      · cases h
  case indexAddr t x i =>
    split at h
    · exact opIndexAddr_plain h
    · cases h
  case index t x i =>
    split at h
    · split at h
      · rename_i hm; cases h; exact must_plain hm
      · cases h
    · split at h
      · rename_i hm
        split at h
        · cases h; exact must_plain hm
        · cases h
      · cases h
    · cases h
  case call c =>
    split at h
    · split at h
      · unfold opBuiltin at h
        split at h
        · repeat' (split at h)
          all_goals first
            | (cases h; exact ⟨rfl, rfl⟩)
            | (rename_i hm; cases h; exact must_plain hm)
            | cases h
        · split at h
          · cases h; exact ⟨rfl, rfl⟩
          · cases h
        · split at h
          · cases h; exact ⟨rfl, rfl⟩
          · cases h
        · split at h
          · split at h
            · split at h
              · split at h
                · exact opAppO_plain h
                · cases h
              · split at h
                · exact opAppend_plain h
                · cases h
            · cases h
          · cases h
        · split at h
          · cases h; exact ⟨rfl, rfl⟩
          · cases h
        · cases h; exact ⟨rfl, rfl⟩
        · split at h
          · rename_i hm; cases h; exact must_plain hm
          · cases h
        · split at h
          · split at h
            · rename_i hm
              split at h
              · cases h; exact must_plain hm
              · cases h
            · cases h
          · cases h
        · cases h
      · split at h
        · split at h
          · exact doCall_plain h
          · split at h
            · cases h; exact ⟨rfl, rfl⟩
            · cases h
        · cases h
      · cases h
    · cases h
  all_goals
    repeat' (split at h)
    all_goals first
      | (cases h; exact ⟨rfl, rfl⟩)
      | cases h
theorem iopF_plain {E : Env} {T : List V} {l : Look} {nid : Nat} {o : Oper} {ob : Prop} {r : Out} (h : iopF E T l nid o [] ob = some r) : Plain r ob := by
  unfold iopF at h
  split at h
  · rename_i r0 hr
    have hp := iop_plain hr
    rcases frzO_cases h with rfl | ⟨_, _, v', ids, _, rfl⟩
    · exact hp
    · exact ⟨hp.1, hp.2⟩
  · cases h
theorem iopS_plain {E : Env} {ops : Array Oper} {j : Nat} {T : List V} {l : Look} {nid : Nat} {o : Oper} {ob : Prop} {r : Out} (h : iopS E ops j T l nid o [] ob = some r) : Plain r ob := by
  unfold iopS at h
  split at h
  · rename_i r0 hr
    obtain ⟨h1, h2⟩ := iopF_plain hr
    unfold settle at h
    rw [h1] at h
    split at h
    · split at h
      · cases h
      · cases h; exact ⟨h1, h2⟩
    · cases h; exact ⟨h1, h2⟩
  · cases h
theorem wantedV_plain {T : List V} {ops : Array Oper} {o : Oper} {ps' : List Ev} {ob ob' : Prop} {c : Bool} (h : wantedV ops T o [] ob = some (c, ps', ob')) : ps' = [] ∧ ob' = ob := by
  unfold wantedV at h
  split at h
  · cases h; exact ⟨rfl, rfl⟩
  · split at h
    · split at h
      · rename_i hk; cases h; exact ask_plain hk
      · cases h
    · cases h; exact ⟨rfl, rfl⟩
    · cases h
theorem runOps_plain {E : Env} {ops : Array Oper} : ∀ (rest : List Oper) (j : Nat) (st st' : St), runOps E ops j rest st = some st' → st.ps = [] → st'.ps = [] ∧ st'.ob = st.ob
  | [], j, st, st', h, hp => by simp only [runOps] at h; cases h; exact ⟨hp, rfl⟩
  | o :: rest, j, st, st', h, hp => by
    simp only [runOps, hp] at h
    split at h
    · rename_i hw
      obtain ⟨rfl, rfl⟩ := wantedV_plain hw
      split at h
      · have := runOps_plain rest _ _ st' h rfl
        exact this
      · split at h
        · rename_i hr
          obtain ⟨q1, q2⟩ := iopS_plain hr
          split at h
          · obtain ⟨g1, g2⟩ := runOps_plain rest _ _ st' h q1
            exact ⟨g1, g2.trans q2⟩
          · cases h
        · cases h
    · rename_i hw
      obtain ⟨rfl, rfl⟩ := wantedV_plain hw
      have := runOps_plain rest _ _ st' h rfl
      exact this
    · cases h
theorem runDrawn_plain {E : Env} {ops : Array Oper} {base : Nat} : ∀ (rest : List Oper) (k : Nat) (st st' : St) (log : Log), runDrawn E ops base k rest st = some (st', log) → st.ps = [] → st'.ps = [] ∧ st'.ob = st.ob
  | [], k, st, st', log, h, hp => by simp only [runDrawn] at h; cases h; exact ⟨hp, rfl⟩
  | o :: rest, k, st, st', log, h, hp => by
    simp only [runDrawn, hp] at h
    split at h
    · rename_i hw
      obtain ⟨rfl, rfl⟩ := wantedV_plain hw
      split at h
      · rename_i hr
        obtain ⟨q1, q2⟩ := iopS_plain hr
        split at h
        · split at h
          · rename_i hrest
            cases h
            obtain ⟨g1, g2⟩ := runDrawn_plain rest _ _ _ _ hrest q1
            exact ⟨g1, g2.trans q2⟩
          · cases h
        · cases h
      · cases h
    · rename_i hw
      obtain ⟨rfl, rfl⟩ := wantedV_plain hw
      split at h
      · rename_i hrest
        cases h
        have := runDrawn_plain rest _ _ _ _ hrest rfl
        exact this
      · cases h
    · cases h
theorem exec_plain {E : Env} : ∀ (n : Nat), (∀ (c : Code) (st : St) (ex : Ex) (st' : St), exec E n c st = some (ex, st') → st.ps = [] → st'.ps = [] ∧ st'.ob = st.ob) ∧
    (∀ (c : Code) (st : St) (ex : Ex) (st' : St), iter E n c st = some (ex, st') → st.ps = [] → st'.ps = [] ∧ st'.ob = st.ob) := by
  intro n
  induction n with
  | zero => exact ⟨fun c st ex st' h => by simp [exec] at h, fun c st ex st' h => by simp [iter] at h⟩
  | succ n ih =>
    obtain ⟨ih1, ih2⟩ := ih
    refine ⟨fun c st ex st' h hp => ?_, fun c st ex st' h hp => ?_⟩
    · cases c with
      | skip => simp only [exec] at h; cases h; exact ⟨hp, rfl⟩
      | label l => simp only [exec] at h; cases h; exact ⟨hp, rfl⟩
      | ret => simp only [exec] at h; cases h; exact ⟨hp, rfl⟩
      | exit id => simp only [exec] at h; cases h; exact ⟨hp, rfl⟩
      | region id ops d =>
        cases d with
        | false =>
          simp only [exec] at h
          split at h
          · rename_i hr; cases h; exact runOps_plain _ _ _ _ hr hp
          · cases h
        | true =>
          simp only [exec] at h
          split at h
          · rename_i hr
            have hpl := runDrawn_plain _ _ _ _ _ hr hp
            split at h
            · cases h; exact hpl
            · rw [hpl.1] at h; cases h
            · cases h
          · cases h
      | seq x y =>
        simp only [exec] at h
        split at h
        · rename_i st1 h1
          obtain ⟨p1, p2⟩ := ih1 x st _ st1 h1 hp
          rw [p1] at h
          simp only [cutEv] at h
          obtain ⟨q1, q2⟩ := ih1 y st1 ex st' h p1
          exact ⟨q1, q2.trans p2⟩
        · exact ih1 x st ex st' h hp
      | cond c x y =>
        simp only [exec, hp] at h
        split at h
        · split at h
          · rename_i hk
            obtain ⟨rfl, rfl⟩ := ask_plain hk
            have := ih1 x _ ex st' h rfl
            exact this
          · rename_i hk
            obtain ⟨rfl, rfl⟩ := ask_plain hk
            have := ih1 y _ ex st' h rfl
            exact this
          · cases h
        · cases h
      | block id c =>
        simp only [exec] at h
        split at h
        · rename_i st1 h1
          split at h
          · cases h; exact ih1 c st _ _ h1 hp
          · cases h; exact ih1 c st _ _ h1 hp
        · exact ih1 c st ex st' h hp
      | loop c =>
        simp only [exec, hp] at h
        exact ih2 c st ex st' h hp
      | rangeFunc => simp [exec] at h
      | goto => simp [exec] at h
      | scope => simp [exec] at h
      | refuse => simp [exec] at h
    · simp only [iter] at h
      split at h
      · rename_i st1 h1
        obtain ⟨p1, p2⟩ := ih1 c st _ st1 h1 hp
        rw [p1] at h
        obtain ⟨q1, q2⟩ := ih2 c st1 ex st' h p1
        exact ⟨q1, q2.trans p2⟩
      · exact ih1 c st ex st' h hp
/-- What is run without events is so. -/
theorem icall_ok {P : Program} (hm : PGood P) {A : FuncId → Cx} {sim : FuncId → List V → Heap → V → Heap → Prop} (hsim : ∀ f a H v H', sim f a H v H' → Sim P f a H v H') {orc : FuncId → List V → Heap → Option (V × Heap)}
    (horc : ∀ f a H v H', orc f a H = some (v, H') → Sim P f a H v H') : ∀ (n : Nat) (f : FuncId) (a : List V) (H : Heap) (v : V) (H' : Heap), icall P A sim orc n f a H = some (v, H') → Sim P f a H v H'
  | 0, _, _, _, _, _, h => by simp [icall] at h
  | n + 1, f, a, H, v, H', h => by
    simp only [icall] at h
    split at h
    · rename_i r hr
      cases h
      exact horc f a H v H' hr
    · split at h
      · rename_i fn hf
        split at h
        · rename_i c hb
          have hE : EnvOk { P, cx := A f, call := icall P A sim orc n, sim } := ⟨hm, fun f a H v H' h => icall_ok hm hsim horc n f a H v H' h, hsim, fun _ _ _ _ _ _ h => h.elim, fun _ _ _ _ _ _ h => h.elim⟩
          have hob : ∀ (st : St) (ex : Ex), exec { P, cx := A f, call := icall P A sim orc n, sim } n c ⟨enterV fn a, H, [], True⟩ = some (ex, st) → st.ob := by
            intro st ex h
            rw [((exec_plain n).1 c _ ex st h rfl).2]
            trivial
          split at h
          · rename_i st hr; exact sim_of_exec hE hf hb hr (.inl rfl) (hob _ _ hr) h
          · rename_i st hr; exact sim_of_exec hE hf hb hr (.inr rfl) (hob _ _ hr) h
          · cases h
        · cases h
      · cases h
/-- The call in the model, of a law over data: its answer; nothing that was there has changed. -/
theorem calls_of_sim {P : Program} {f : FuncId} {args : List V} {v : V} {H' : Heap} (h : Sim P f args [] v H') {w : World} (hgw : GW w) {xs : Array Value} (hl : args.length = xs.size)
    (hx : ∀ (j : Nat) (u : V) (x : Value), args[j]? = some u → xs[j]? = some x → IR w.heap (fun _ => False) u x) {R : Value → Prop} (hv : ∀ (h : Array Obj) (own : Nat → Prop) (ρ : Rho) (x : Value), VR h own ρ v x → R x) :
    Calls P f xs w fun e w' => ∃ x, e = .returned x ∧ R x ∧ RowKit.Below w.heap.size w w' := by
  refine (h.2 ⟨fun _ => False, ⟨fun _ => none, fun _ => none⟩⟩ w xs ⟨fun id B hB => ?_, fun i j Bi Bj p q hi => ?_, fun b hb => hb.elim, ⟨w.heap.size, fun b hb => hb.elim, Nat.le_refl _, hgw.below⟩⟩ (fun id _ => ⟨rfl, rfl⟩) hl fun j u x hj hjx => .imm _ _ (hx j u x hj hjx)).mono ?_
  · simp [lookH] at hB
  · simp [lookH] at hi
  · rintro e w' ⟨X', x, rfl, hs, hvx, _⟩
    exact ⟨x, rfl, hv _ _ _ x hvx, hs.os, hs.tape, hs.output, hs.size, fun k hk => hs.keep k hk (.inl fun h => h)⟩
end Go.Im
