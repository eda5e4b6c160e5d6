/- The ideal machine: a call. -/
import Derived.Test.YtobomgckeoomkaaImRen
namespace Go.Im
set_option linter.unusedVariables false
def Clean (H H' : Heap) : Prop := ∀ (j : Nat) (B : Blk), j < H.length → H'[j]? = some (some B) → B.dirty = false → H[j]? = some (some B)
/-- What a call of f comes to, whatever the memory: its answer, and what becomes of the blocks that it was given. -/
def Sim (P : Program) (f : FuncId) (args : List V) (H : Heap) (v : V) (H' : Heap) : Prop :=
  Clean H H' ∧ ∀ (X : Cr) (w : World) (xs : Array Value), RelL X w (lookH H) → (∀ id p, X.ρ id = some p → id < H.length) → args.length = xs.size →
    (∀ (j : Nat) (u : V) (x : Value), args[j]? = some u → xs[j]? = some x → X.vr w u x) →
    Calls P f xs w fun e w' => ∃ X' x, e = .returned x ∧ Step X w (lookH H) X' w' (lookH H') ∧ X'.vr w' v x ∧ ∀ id p, X'.ρ id = some p → id < H'.length
def subH (l : Look) (m : List Nat) : Heap := m.map fun id => (l id).map (renB (indexOf m) false)
def Cr.sub (X : Cr) (m : List Nat) : Cr := ⟨X.own, fun j => (m[j]?).bind X.ρ⟩
theorem lookH_sub {l : Look} {m : List Nat} {j : Nat} {B : Blk} (h : lookH (subH l m) j = some B) : ∃ id B0, m[j]? = some id ∧ l id = some B0 ∧ B = renB (indexOf m) false B0 := by
  simp only [lookH, subH, List.getElem?_map] at h
  cases hm : m[j]? with
  | none => simp [hm] at h
  | some id =>
    simp only [hm, Option.map_some] at h
    obtain ⟨B0, h1, h2⟩ := Option.map_eq_some_iff.1 h
    exact ⟨id, B0, rfl, h1, h2.symm⟩
theorem renB_row {X X' : Cr} {w w' : World} {f : Nat → Option Nat} {d : Bool} {B : Blk} {c : Array Value} {s : Nat} (hrow : Row X w B c s)
    (hv : ∀ (v : V) (x : Value), X.vr w v x → X'.vr w' (ren f v) x) (hi : ∀ (v : V) (x : Value), IR w.heap X.own v x → IR w'.heap X'.own v x) : Row X' w' (renB f d B) c s := by
  intro k e hk
  cases hs : B.sym with
  | true =>
    simp only [renB, hs] at hk
    obtain ⟨h1, h2⟩ := hrow k e hk
    refine ⟨h1, fun j v hj => ?_⟩
    obtain ⟨x, hx, _, hir⟩ := h2 j v hj
    exact ⟨x, hx, .imm _ _ (hi v x (hir hs)), fun _ => hi v x (hir hs)⟩
  | false =>
    simp only [renB, hs] at hk
    obtain ⟨e0, he0, rfl⟩ := renL_get' hk
    obtain ⟨h1, h2⟩ := hrow k e0 he0
    refine ⟨by rw [ren_cells, renL_len]; exact h1, fun j v hj => ?_⟩
    rw [ren_cells] at hj
    obtain ⟨v0, hv0, rfl⟩ := renL_get' hj
    obtain ⟨x, hx, hvx, _⟩ := h2 j v0 hv0
    exact ⟨x, hx, hv v0 x hvx, fun h => by simp [renB, hs] at h⟩
theorem sub_rel {X : Cr} {w : World} {l : Look} (hl : RelL X w l) {m : List Nat} (hm : m.Nodup) : RelL (X.sub m) w (lookH (subH l m)) := by
  have hren : ∀ (v : V) (x : Value), X.vr w v x → (X.sub m).vr w (ren (indexOf m) v) x := fun v x hv => ren_vr (fun id j p hj hp => by simp [Cr.sub, indexOf_some hm hj, hp]) hv
  refine ⟨fun j B h => ?_, fun i j Bi Bj p q hi hj hp hq hpq => ?_, hl.lt⟩
  · obtain ⟨id, B0, h1, h2, rfl⟩ := lookH_sub h
    obtain ⟨b, s, c, e, hρ, ho, hb, hrow⟩ := hl.blk id B0 h2
    exact ⟨b, s, c, e, by simp [Cr.sub, h1, hρ, renB], ho, hb, renB_row hrow hren fun v x h => h⟩
  · obtain ⟨id, B0, h1, h2, _⟩ := lookH_sub hi
    obtain ⟨id', B0', h1', h2', _⟩ := lookH_sub hj
    simp only [Cr.sub, h1, h1', Option.bind_some] at hp hq
    have := hl.inj id id' B0 B0' p q h2 h2' hp hq hpq
    subst this
    exact nodup_inj hm h1 h1'
theorem sub_live {X : Cr} {l : Look} {m : List Nat} {b : Nat} (h : (X.sub m).live (lookH (subH l m)) b) : ∃ id B s z, id ∈ m ∧ l id = some B ∧ X.ρ id = some (b, s, z) := by
  obtain ⟨j, B, s, z, hB, hρ⟩ := h
  obtain ⟨id, B0, h1, h2, _⟩ := lookH_sub hB
  simp only [Cr.sub, h1, Option.bind_some] at hρ
  exact ⟨id, B0, s, z, List.mem_of_getElem? h1, h2, hρ⟩
theorem call_back {X1 X2 : Cr} {w w2 : World} {l1 : Look} (hl : RelL X1 w l1) {m : List Nat} (hm : m.Nodup) (hok : ∀ id ∈ m, blkOk (indexOf m) (l1 id) = true) {H' : Heap} (hst : Step (X1.sub m) w (lookH (subH l1 m)) X2 w2 (lookH H'))
    (hcl : Clean (subH l1 m) H') (hlen : m.length ≤ H'.length) {v : V} {x : Value} (hv : X2.vr w2 v x) (hdom : ∀ id p, X2.ρ id = some p → id < H'.length) {nid : Nat}
    (hfresh : ∀ k, nid ≤ k → k < nid + (H'.length - m.length) → X1.ρ k = none) :
    ∃ X' : Cr, Step X1 w l1 X' w2 (newL (updL l1 (backUpd [] (backOf m nid) m H')) nid ((H'.drop m.length).map (·.map (renB (backOf m nid) true)))) ∧ X'.vr w2 (ren (backOf m nid) v) x ∧
      ∀ id p, X'.ρ id = some p → X1.ρ id = some p ∨ (nid ≤ id ∧ id < nid + (H'.length - m.length)) := by
  -- what was live keeps its place
  have hlive : ∀ (j id : Nat), m[j]? = some id → ∃ p, X1.ρ id = some p ∧ X2.ρ j = some p := by
    intro j id hj
    have := hok id (List.mem_of_getElem? hj)
    cases hB : l1 id with
    | none => simp [blkOk, hB] at this
    | some B =>
      obtain ⟨b, s, c, e, hρ, _⟩ := hl.blk id B hB
      exact ⟨_, hρ, hst.rho j _ (by simp [Cr.sub, hj, hρ])⟩
  have hnm : ∀ id ∈ m, ¬ (nid ≤ id ∧ id < nid + (H'.length - m.length)) := by
    intro id hid ⟨h1, h2⟩
    obtain ⟨j, hj⟩ := List.getElem?_of_mem hid
    obtain ⟨p, hp, _⟩ := hlive j id hj
    rw [hfresh id h1 h2] at hp
    cases hp
  let X' : Cr := ⟨X2.own, fun id => if nid ≤ id ∧ id < nid + (H'.length - m.length) then X2.ρ (id - nid + m.length) else X1.ρ id⟩
  have hback : ∀ (j id : Nat) (p : Nat × Nat × Nat), backOf m nid j = some id → X2.ρ j = some p → X'.ρ id = some p := by
    intro j id p hj hp
    unfold backOf at hj
    cases hmj : m[j]? with
    | some id' =>
      simp only [hmj] at hj
      cases hj
      obtain ⟨q, hq1, hq2⟩ := hlive j id hmj
      show (if _ then _ else _) = _
      rw [if_neg (hnm id (List.mem_of_getElem? hmj)), hq1, ← hp, hq2]
    | none =>
      simp only [hmj] at hj
      cases hj
      have hge : m.length ≤ j := by rw [List.getElem?_eq_none_iff] at hmj; exact hmj
      have hlt := hdom j p hp
      show (if _ then _ else _) = _
      rw [if_pos ⟨by omega, by omega⟩, ← hp]
      congr 1
      omega
  have hren : ∀ (u : V) (y : Value), X2.vr w2 u y → X'.vr w2 (ren (backOf m nid) u) y := fun u y hu => ren_vr (fun j id p hj hp => hback j id p hj hp) hu
  have hE : Ext X1 w l1 X' w2 := by
    have hsub : ∀ b, (X1.sub m).live (lookH (subH l1 m)) b → X1.live l1 b := fun b h => by
      obtain ⟨id, B, s, z, _, hB, hρ⟩ := sub_live h
      exact ⟨id, B, s, z, hB, hρ⟩
    refine ⟨hst.os, hst.tape, hst.output, hst.size, fun id p hp => ?_, fun b hb hn => hst.keep b hb (hn.imp id fun h h' => h (hsub b h')), fun b hb hn => hst.own b hb hn, fun b ho hn => hst.still b ho fun h => hn (hsub b h), hst.shape⟩
    show (if _ then _ else _) = _
    rw [if_neg (fun h => by rw [hfresh id h.1 h.2] at hp; cases hp)]
    exact hp
  -- each block behind the call
  have hcase : ∀ id B, newL (updL l1 (backUpd [] (backOf m nid) m H')) nid ((H'.drop m.length).map (·.map (renB (backOf m nid) true))) id = some B →
      (∃ j B', lookH H' j = some B' ∧ X'.ρ id = X2.ρ j ∧ B.sz = B'.sz ∧ (∀ c s, Row X2 w2 B' c s → Row X' w2 B c s) ∧ backOf m nid j = some id) ∨ (id ∉ m ∧ l1 id = some B ∧ X'.ρ id = X1.ρ id) := by
    intro id B h
    by_cases hr : nid ≤ id ∧ id < nid + (H'.length - m.length)
    · obtain ⟨hr1, hr2⟩ := hr
      refine .inl ⟨id - nid + m.length, ?_⟩
      simp only [newL, if_pos hr1, List.getElem?_map, List.getElem?_drop] at h
      have hlt : m.length + (id - nid) < H'.length := by omega
      rw [List.getElem?_eq_getElem hlt] at h
      simp only [Option.map_some] at h
      obtain ⟨B', hB', rfl⟩ := Option.map_eq_some_iff.1 h
      refine ⟨B', ?_, ?_, rfl, fun c s hrow => renB_row hrow hren fun u y h => h, ?_⟩
      · simp only [lookH]
        rw [show id - nid + m.length = m.length + (id - nid) by omega, List.getElem?_eq_getElem hlt, hB']
      · show (if _ then _ else _) = _
        rw [if_pos ⟨hr1, hr2⟩]
      · unfold backOf
        rw [List.getElem?_eq_none (by omega)]
        simp only
        congr 1
        omega
    · have hX' : X'.ρ id = X1.ρ id := by show (if _ then _ else _) = _; rw [if_neg hr]
      have h' : updL l1 (backUpd [] (backOf m nid) m H') id = some B := by
        simp only [newL] at h
        split at h
        · rename_i hle
          rw [List.getElem?_eq_none (by simp; omega)] at h
          exact h
        · exact h
      obtain ⟨g1, g2⟩ := backUpd_get (backOf m nid) m H' l1 hm id
      by_cases hid : id ∈ m
      · obtain ⟨j, hj⟩ := List.getElem?_of_mem hid
        rw [g2 j hj] at h'
        obtain ⟨p, hp1, hp2⟩ := hlive j id hj
        have hjl : j < m.length := (List.getElem?_eq_some_iff.1 hj).1
        have hjH : j < H'.length := by omega
        rw [List.getElem?_eq_getElem hjH] at h'
        have hbk : backOf m nid j = some id := by simp [backOf, hj]
        cases hd : H'[j] with
        | none => simp [backB, hd] at h'
        | some B' =>
          have hlk : lookH H' j = some B' := by simp [lookH, List.getElem?_eq_getElem hjH, hd]
          simp only [backB, hd] at h'
          refine .inl ⟨j, B', hlk, by rw [hX', hp1, hp2], ?_⟩
          cases hdir : B'.dirty with
          | true =>
            simp only [hdir, if_true, Option.some.injEq] at h'
            subst h'
            exact ⟨rfl, fun c s hrow => renB_row hrow hren fun u y h => h, hbk⟩
          | false =>
            simp only [hdir, Bool.false_eq_true, if_false] at h'
            have hsame := hcl j B' (by simpa [subH] using hjl) (by rw [List.getElem?_eq_getElem hjH, hd]) hdir
            simp only [subH, List.getElem?_map, hj, Option.map_some, h', Option.some.injEq] at hsame
            subst hsame
            refine ⟨rfl, fun c s hrow => ?_, hbk⟩
            have hokB := hok id hid
            simp only [blkOk, h'] at hokB
            intro k e hk
            cases hs : B.sym with
            | true =>
              have hk' : (renB (indexOf m) false B).es[k]? = some e := by simpa [renB, hs] using hk
              obtain ⟨r1, r2⟩ := hrow k e hk'
              refine ⟨r1, fun q u hq => ?_⟩
              obtain ⟨y, hy, _, hir⟩ := r2 q u hq
              exact ⟨y, hy, .imm _ _ (hir (by simp [renB, hs])), fun _ => hir (by simp [renB, hs])⟩
            | false =>
              simp only [hs] at hokB
              have hk' : (renB (indexOf m) false B).es[k]? = some (ren (indexOf m) e) := by simp [renB, hs, renL_get, hk]
              obtain ⟨r1, r2⟩ := hrow k _ hk'
              rw [ren_cells, renL_len] at r1
              refine ⟨r1, fun q u hq => ?_⟩
              obtain ⟨y, hy, hvy, _⟩ := r2 q (ren (indexOf m) u) (by rw [ren_cells, renL_get, hq]; rfl)
              refine ⟨y, hy, ?_, fun h => by cases h⟩
              have hou : okV (indexOf m) u = true := by
                have hoe : okV (indexOf m) e = true := by
                  have : ∀ (vs : List V), okVs (indexOf m) vs = true → ∀ (k : Nat) (z : V), vs[k]? = some z → okV (indexOf m) z = true := by
                    intro vs
                    induction vs with
                    | nil => intro _ k z h; simp at h
                    | cons a vs ih =>
                      intro h k z hk
                      simp only [okVs, Bool.and_eq_true] at h
                      cases k with
                      | zero => simp at hk; subst hk; exact h.1
                      | succ k => exact ih h.2 k z (by simpa using hk)
                  exact this _ hokB k e hk
                have : ∀ (vs : List V), okVs (indexOf m) vs = true → ∀ (k : Nat) (z : V), vs[k]? = some z → okV (indexOf m) z = true := by
                  intro vs
                  induction vs with
                  | nil => intro _ k z h; simp at h
                  | cons a vs ih =>
                    intro h k z hk
                    simp only [okVs, Bool.and_eq_true] at h
                    cases k with
                    | zero => simp at hk; subst hk; exact h.1
                    | succ k => exact ih h.2 k z (by simpa using hk)
                cases e with
                | agg cs => exact this cs (by simpa [okV] using hoe) q u (by simpa [V.cells] using hq)
                | _ =>
                  cases q with
                  | zero => simp [V.cells] at hq; subst hq; exact hoe
                  | succ q => simp [V.cells] at hq
              have := hren _ y hvy
              rw [ren_back (f := indexOf m) (g := backOf m nid) (fun i j hj => by simp [backOf, indexOf_some hm hj]) u hou] at this
              exact this
      · rw [g1 hid] at h'
        exact .inr ⟨hid, h', hX'⟩
  have hframe : ∀ id B b s z, id ∉ m → l1 id = some B → X1.ρ id = some (b, s, z) → ¬ (X1.sub m).live (lookH (subH l1 m)) b := by
    intro id B b s z hid hB hρ hlv
    obtain ⟨id', B', s', z', hid', hB', hρ'⟩ := sub_live hlv
    exact hid (hl.inj id' id B' B _ _ hB' hB hρ' hρ rfl ▸ hid')
  refine ⟨X', { toExt := hE, rel := ⟨fun id B h => ?_, fun i j Bi Bj p q hi hj hp hq hpq => ?_, hst.rel.lt⟩, nl := fun b hb => ?_ }, hren v x hv, fun id p hp => ?_⟩
  · rcases hcase id B h with ⟨j, B', hB', hρ', hsz, hrow', _⟩ | ⟨hid, hB, hρ'⟩
    · obtain ⟨b, s, c, e, hρ, ho, hb, hrow⟩ := hst.rel.blk j B' hB'
      exact ⟨b, s, c, e, by rw [hρ', hρ, hsz], ho, hb, hrow' c s hrow⟩
    · obtain ⟨b, s, c, e, hρ, ho, hb, hrow⟩ := hl.blk id B hB
      have hnl := hframe id B b s B.sz hid hB hρ
      refine ⟨b, s, c, e, by rw [hρ', hρ], hst.still b ho hnl, by rw [hst.keep b (hl.lt b ho) (.inr hnl)]; exact hb, fun k f hk => ?_⟩
      obtain ⟨r1, r2⟩ := hrow k f hk
      refine ⟨r1, fun q u hq => ?_⟩
      obtain ⟨y, hy, hvy, hs⟩ := r2 q u hq
      exact ⟨y, hy, hvy.ext hE, fun h => (hs h).ext hE⟩
  · have hsep : ∀ (id : Nat) (B : Blk) (p : Nat × Nat × Nat), id ∉ m → l1 id = some B → X1.ρ id = some p → ∀ (j : Nat) (B' : Blk) (q : Nat × Nat × Nat), lookH H' j = some B' → X2.ρ j = some q → p.1 ≠ q.1 := by
      intro id B p hid hB hρ j B' q hB' hq he
      obtain ⟨b, s, z⟩ := p
      obtain ⟨b', s', z'⟩ := q
      dsimp only at he
      subst he
      obtain ⟨b0, s0, c0, e0, hρ0, ho0, hb0, _⟩ := hl.blk id B hB
      rw [hρ] at hρ0
      cases hρ0
      rcases hst.nl b ⟨j, B', s', z', hB', hq⟩ with h | h
      · have := hl.lt b ho0; omega
      · exact hframe id B b s _ hid hB hρ h
    rcases hcase i Bi hi with ⟨j1, B1, hB1, hρ1, _, _, hb1⟩ | ⟨hid1, hB1, hρ1⟩ <;> rcases hcase j Bj hj with ⟨j2, B2, hB2, hρ2, _, _, hb2⟩ | ⟨hid2, hB2, hρ2⟩
    · rw [hρ1] at hp
      rw [hρ2] at hq
      have := hst.rel.inj j1 j2 B1 B2 p q hB1 hB2 hp hq hpq
      subst this
      rw [hb1] at hb2
      exact Option.some.inj hb2
    · rw [hρ1] at hp
      rw [hρ2] at hq
      exact absurd hpq.symm (hsep j Bj q hid2 hB2 hq j1 B1 p hB1 hp)
    · rw [hρ1] at hp
      rw [hρ2] at hq
      exact absurd hpq (hsep i Bi p hid1 hB1 hp j2 B2 q hB2 hq)
    · rw [hρ1] at hp
      rw [hρ2] at hq
      exact hl.inj i j Bi Bj p q hB1 hB2 hp hq hpq
  · obtain ⟨id, B, s, z, hB, hρ⟩ := hb
    rcases hcase id B hB with ⟨j, B', hB', hρ', _⟩ | ⟨hid, hB', hρ'⟩
    · rw [hρ'] at hρ
      rcases hst.nl b ⟨j, B', s, z, hB', hρ⟩ with h | h
      · exact .inl h
      · obtain ⟨id', B'', s', z', _, h1, h2⟩ := sub_live h
        exact .inr ⟨id', B'', s', z', h1, h2⟩
    · rw [hρ'] at hρ
      exact .inr ⟨id, B, s, z, hB', hρ⟩
  · by_cases hr : nid ≤ id ∧ id < nid + (H'.length - m.length)
    · exact .inr hr
    · have : X'.ρ id = X1.ρ id := by show (if _ then _ else _) = _; rw [if_neg hr]
      exact .inl (this ▸ hp)
theorem fzArgs_ok {X : Cr} {w : World} {l : Look} (hl : RelL X w l) (keep : Bool) (K : List Nat) : ∀ (vs vs' : List V) (ids : List Nat), fzArgs l keep vs = some (vs', ids) → (∀ i ∈ ids, i ∈ K) →
    vs'.length = vs.length ∧ ∀ (k : Nat) (u : V), vs[k]? = some u → ∃ u', vs'[k]? = some u' ∧ FzR X w l K u u'
  | [], vs', ids, h, _ => by simp [fzArgs] at h; obtain ⟨rfl, rfl⟩ := h; exact ⟨rfl, fun k u hk => by simp at hk⟩
  | v :: vs, vs', ids, h, hK => by
    simp only [fzArgs] at h
    split at h
    · rename_i x i xs j h1 h2
      cases h
      obtain ⟨g1, g2⟩ := fzArgs_ok hl keep K vs xs j h2 (fun k hk => hK k (by simp [hk]))
      refine ⟨by simp [g1], fun k u hk => ?_⟩
      cases k with
      | zero =>
        simp at hk
        subst hk
        refine ⟨x, by simp, ?_⟩
        cases keep with
        | true => simp at h1; obtain ⟨rfl, rfl⟩ := h1; exact fun y hy => hy.ext (less_step hl K).toExt
        | false => exact (fz_ok hl _ K 10000 v x i (by simpa using h1) (fun k hk => hK k (by simp [hk]))).1
      | succ k => simpa using g2 k u (by simpa using hk)
    · cases h
def Ex.to : Ex → Exit
  | .normal => .normal
  | .exit id => .exit id
  | .ret => .ret
/-- The slots. -/
structure StR (X : Cr) (w : World) (T : List V) (H : Heap) (a : Act) : Prop where
  sr : SR X w T a
  rel : RelL X w (lookH H)
  dom : ∀ id p, X.ρ id = some p → id < H.length
  defers : a.defers = []
/-- What a piece of code comes to. -/
def SimC (P : Program) (c : Code) (T : List V) (H : Heap) (ex : Ex) (T' : List V) (H' : Heap) : Prop :=
  Clean H H' ∧ H.length ≤ H'.length ∧ ∀ (X : Cr) (w : World) (a : Act) (Q : Exit → Act → World → Prop), StR X w T H a → (∀ X' w' a', StR X' w' T' H' a' → Step X w (lookH H) X' w' (lookH H') → Q ex.to a' w') → c.wp P Q a w
/-- What stands for the calls that the machine makes by itself, and for those that it is told, is so. -/
structure EnvOk (E : Env) : Prop where
  mixed : E.P.follows .mixedOrders = true
  call : ∀ f a H v H', E.call f a H = some (v, H') → Sim E.P f a H v H'
  sim : ∀ f a H v H', E.sim f a H v H' → Sim E.P f a H v H'
  loop : ∀ c T H ex T' H', E.loop c T H ex T' H' → SimC E.P (.loop c) T H ex T' H'
theorem call_does {E : Env} (hE : EnvOk E) {X : Cr} {w : World} {l : Look} (hl : RelL X w l) {nid : Nat} {ps : List Ev} {ob : Prop} {f : FuncId} {args : List V} {r : Out} (h : doCall E l nid ps ob f args = some r) (hob : r.ob)
    (hfresh : ∀ k, nid ≤ k → k < nid + r.new.length → X.ρ k = none) {xs : Array Value} (hxl : args.length = xs.size) (hx : ∀ (j : Nat) (u : V) (x : Value), args[j]? = some u → xs[j]? = some x → X.vr w u x) :
    ob ∧ Calls E.P f xs w fun e w' => ∃ X' x, e = .returned x ∧ Good X w l nid r X' w' x := by
  unfold doCall at h
  split at h
  · cases h
  · rename_i vals kills hf
    simp only at h
    split at h
    · cases h
    rename_i m hreach
    split at h
    · rename_i hc
      simp only [Bool.and_eq_true] at hc
      obtain ⟨hnd, hbk⟩ := hc
      have hm := nodupB_spec hnd
      obtain ⟨f1, f2⟩ := fzArgs_ok hl _ kills args vals kills hf (fun i hi => hi)
      have h1 := less_step hl kills
      -- the rest, once it is known what the call comes to
      have main : ∀ (v : V) (H' : Heap) (ps' : List Ev) (ob' : Prop), fin nid m kills v H' ps' ob' = some r →
          Sim E.P f (renL (indexOf m) vals) (subH (lessL l kills) m) v H' →
          Calls E.P f xs w fun e w' => ∃ X' x, e = .returned x ∧ Good X w l nid r X' w' x := by
        intro v H' ps' ob' hfin hsim
        unfold fin at hfin
        split at hfin
        · rename_i hlen
          cases hfin
          obtain ⟨hcl, hcalls⟩ := hsim
          have hrl := sub_rel h1.rel hm
          refine (hcalls ((X.less l kills).sub m) w xs hrl (fun j p hp => ?_) (by rw [renL_len, f1]; exact hxl) (fun j u x hj hjx => ?_)).mono ?_
          · simp only [Cr.sub] at hp
            cases hmj : m[j]? with
            | none => simp [hmj] at hp
            | some id => simpa [subH] using (List.getElem?_eq_some_iff.1 hmj).1
          · obtain ⟨u0, hu0, rfl⟩ := renL_get' hj
            have hjl : j < args.length := by rw [← f1]; exact (List.getElem?_eq_some_iff.1 hu0).1
            obtain ⟨u', hu', hfz⟩ := f2 j _ (List.getElem?_eq_getElem hjl)
            rw [hu0] at hu'
            cases hu'
            exact ren_vr (fun id i p hi hp => by simp [Cr.sub, indexOf_some hm hi, hp]) (hfz x (hx j _ x (List.getElem?_eq_getElem hjl) hjx))
          · rintro e w' ⟨X2, x, rfl, hst, hv, hdom⟩
            simp only [List.length_map, List.length_drop] at hfresh
            obtain ⟨X', s1, s2, s3⟩ := call_back h1.rel hm (fun id hid => List.all_eq_true.1 hbk id hid) hst hcl hlen hv hdom (nid := nid) hfresh
            refine ⟨X', x, rfl, ?_, s2, fun id p hp => ?_⟩
            · have := Step.trans hl h1 s1
              rw [updL_append, updL_kills]
              exact this
            · simp only [List.length_map, List.length_drop]
              exact s3 id p hp
        · cases hfin
      split at h
      · rename_i v H' ps' _
        have hh := h
        unfold fin at hh
        split at hh
        · cases hh
          exact ⟨hob.1, main v H' ps' _ h (hE.sim _ _ _ _ _ hob.2)⟩
        · cases hh
      · split at h
        · rename_i v H' hcall
          have hh := h
          unfold fin at hh
          split at hh
          · cases hh
            exact ⟨hob, main v H' _ _ h (hE.call _ _ _ _ _ hcall)⟩
          · cases hh
        · cases h
    · cases h
end Go.Im
