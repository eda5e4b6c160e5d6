/- The ideal machine: a call. -/
import Derived.Test.YtalnancndjgmgaaGreatDoorImRen
import Derived.Defers
namespace Go.Im
set_option linter.unusedVariables false
def Clean (H H' : Heap) : Prop := ∀ (j : Nat) (B : Blk), j < H.length → H'[j]? = some (some B) → B.dirty = false → H[j]? = some (some B)
/-- What a call of f comes to, whatever the memory: its answer, and what becomes of the blocks that it was given. -/
def Sim (P : Program) (f : FuncId) (args : List V) (H : Heap) (v : V) (H' : Heap) : Prop :=
  Clean H H' ∧ ∀ (X : Cr) (w : World) (xs : Array Value), RelL X w (lookH H) → (∀ id, H.length ≤ id → X.ρ.no id) → args.length = xs.size →
    (∀ (j : Nat) (u : V) (x : Value), args[j]? = some u → xs[j]? = some x → X.vr w u x) →
    Calls P f xs w fun e w' => ∃ X' x, e = .returned x ∧ Step X w (lookH H) X' w' (lookH H') ∧ X'.vr w' v x ∧ ∀ id, H'.length ≤ id → X'.ρ.no id
def subH (l : Look) (m : List Nat) : Heap := m.map fun id => (l id).map (renB (indexOf m) false)
def Cr.sub (X : Cr) (m : List Nat) : Cr := ⟨X.own, ⟨fun j => (m[j]?).bind X.ρ, fun j => (m[j]?).bind X.ρ.n⟩⟩
theorem lookH_sub {l : Look} {m : List Nat} {j : Nat} {B : Blk} (h : lookH (subH l m) j = some B) : ∃ id B0, m[j]? = some id ∧ l id = some B0 ∧ B = renB (indexOf m) false B0 := by
  simp only [lookH, subH, List.getElem?_map] at h
  cases hm : m[j]? with
  | none => simp [hm] at h
  | some id =>
    simp only [hm, Option.map_some] at h
    obtain ⟨B0, h1, h2⟩ := Option.map_eq_some_iff.1 h
    exact ⟨id, B0, rfl, h1, h2.symm⟩
theorem renB_row {X X' : Cr} {w w' : World} {f : Nat → Option Nat} {d : Bool} {B : Blk} {c : Array Value} {s : Nat} (hrow : Row X w B c s)
    (hv : ∀ (v : V) (x : Value), X.vr w v x → X'.vr w' (ren f v) x) (hi : ∀ (v : V) (x : Value), IR w.heap X.own v x → IR w'.heap X'.own v x) : Row X' w' (renB f d B) c s := by
  intro k e hk
  cases hs : B.sym with
  | true =>
    simp only [renB, hs] at hk
    obtain ⟨h1, h2⟩ := hrow k e hk
    refine ⟨h1, fun j v hj => ?_⟩
    obtain ⟨x, hx, _, hir⟩ := h2 j v hj
    exact ⟨x, hx, .imm _ _ (hi v x (hir hs)), fun _ => hi v x (hir hs)⟩
  | false =>
    simp only [renB, hs] at hk
    obtain ⟨e0, he0, rfl⟩ := renL_get' hk
    obtain ⟨h1, h2⟩ := hrow k e0 he0
    refine ⟨by rw [ren_cells, renL_len]; exact h1, fun j v hj => ?_⟩
    rw [ren_cells] at hj
    obtain ⟨v0, hv0, rfl⟩ := renL_get' hj
    obtain ⟨x, hx, hvx, _⟩ := h2 j v0 hv0
    exact ⟨x, hx, hv v0 x hvx, fun h => by simp [renB, hs] at h⟩
theorem renB_len (f : Nat → Option Nat) (d : Bool) (B : Blk) : (renB f d B).es.length = B.es.length := by
  simp only [renB]
  cases B.sym with
  | true => rfl
  | false => exact renL_len f B.es
theorem renB_blk {X X' : Cr} {w w' : World} {f : Nat → Option Nat} {d : Bool} {id j : Nat} {B : Blk} (h : GhR X.ρ id B ∨ BlkR X w id B) (hr : X'.ρ.r j = X.ρ.r id) (hn : X'.ρ.n j = X.ρ.n id) (ho : ∀ b s z, X.ρ id = some (b, s, z) → X.own b → X'.own b ∧ w'.heap[b]? = w.heap[b]?)
    (hrow : ∀ c s, Row X w B c s → Row X' w' (renB f d B) c s) : GhR X'.ρ j (renB f d B) ∨ BlkR X' w' j (renB f d B) := by
  rcases h with ⟨g1, g2, g3, g4, g5⟩ | ⟨b, s, c, e, hρ, hown, hb, hrw, hty, hls⟩
  · refine .inl ⟨g1, List.eq_nil_of_length_eq_zero (by rw [renB_len, g2]; rfl), by rw [hr]; exact g3, by rw [hn]; exact g4, g5⟩
  · obtain ⟨h1, h2⟩ := ho b s _ hρ hown
    refine .inr ⟨b, s, c, e, hr.trans hρ, h1, h2.trans hb, hrow c s hrw, hty, fun hl => ?_⟩
    obtain ⟨⟨cap, q1, q2, q3, q4⟩, q5⟩ := hls hl
    exact ⟨⟨cap, by rw [hn, renB_len]; exact q1, q2, by rw [renB_len]; exact q3, q4⟩, q5⟩
theorem sub_rel {X : Cr} {w : World} {l : Look} (hl : RelL X w l) {m : List Nat} (hm : m.Nodup) : RelL (X.sub m) w (lookH (subH l m)) := by
  have hren : ∀ (v : V) (x : Value), X.vr w v x → (X.sub m).vr w (ren (indexOf m) v) x := fun v x hv => ren_vr (fun id j p hj hp => by simp [Cr.sub, indexOf_some hm hj, hp]) (fun id j p hj hp => by simp [Cr.sub, indexOf_some hm hj, hp]) hv
  refine ⟨fun j B h => ?_, fun i j Bi Bj p q hi hj hp hq hpq => ?_, hl.lt, hl.gl⟩
  · obtain ⟨id, B0, h1, h2, rfl⟩ := lookH_sub h
    exact renB_blk (hl.blk id B0 h2) (by simp [Cr.sub, h1]) (by simp [Cr.sub, h1]) (fun b s z _ ho => ⟨ho, rfl⟩) fun c s hrow => renB_row hrow hren fun v x h => h
  · obtain ⟨id, B0, h1, h2, _⟩ := lookH_sub hi
    obtain ⟨id', B0', h1', h2', _⟩ := lookH_sub hj
    simp only [Cr.sub, h1, h1', Option.bind_some] at hp hq
    have := hl.inj id id' B0 B0' p q h2 h2' hp hq hpq
    subst this
    exact nodup_inj hm h1 h1'
theorem sub_live {X : Cr} {l : Look} {m : List Nat} {b : Nat} (h : (X.sub m).live (lookH (subH l m)) b) : ∃ id B s z, id ∈ m ∧ l id = some B ∧ X.ρ id = some (b, s, z) := by
  obtain ⟨j, B, s, z, hB, hρ⟩ := h
  obtain ⟨id, B0, h1, h2, _⟩ := lookH_sub hB
  simp only [Cr.sub, h1, Option.bind_some] at hρ
  exact ⟨id, B0, s, z, List.mem_of_getElem? h1, h2, hρ⟩
theorem call_back {X1 X2 : Cr} {w w2 : World} {l1 : Look} (hl : RelL X1 w l1) {m : List Nat} (hm : m.Nodup) (hok : ∀ id ∈ m, blkOk (indexOf m) (l1 id) = true) {H' : Heap} (hst : Step (X1.sub m) w (lookH (subH l1 m)) X2 w2 (lookH H'))
    (hcl : Clean (subH l1 m) H') (hlen : m.length ≤ H'.length) {v : V} {x : Value} (hv : X2.vr w2 v x) (hdom : ∀ id, H'.length ≤ id → X2.ρ.no id) {nid : Nat}
    (hfresh : ∀ k, nid ≤ k → k < nid + (H'.length - m.length) → X1.ρ.no k) :
    ∃ X' : Cr, Step X1 w l1 X' w2 (newL (updL l1 (backUpd [] (backOf m nid) m H')) nid ((H'.drop m.length).map (·.map (renB (backOf m nid) true)))) ∧ X'.vr w2 (ren (backOf m nid) v) x ∧
      ∀ id, X1.ρ.no id → ¬ (nid ≤ id ∧ id < nid + (H'.length - m.length)) → X'.ρ.no id := by
  -- what was live has a place
  have hsome : ∀ id ∈ m, ∃ B, l1 id = some B := by
    intro id hid
    have := hok id hid
    cases hB : l1 id with
    | none => simp [blkOk, hB] at this
    | some B => exact ⟨B, rfl⟩
  have hyes : ∀ id B, l1 id = some B → ¬ X1.ρ.no id := by
    intro id B hB hno
    rcases hl.blk id B hB with hg | ⟨b, s, c, e, hρ, _⟩
    · have := hg.2.2.2.1; rw [hno.2] at this; cases this
    · rw [show X1.ρ id = none from hno.1] at hρ; cases hρ
  have hnm : ∀ id ∈ m, ¬ (nid ≤ id ∧ id < nid + (H'.length - m.length)) := by
    intro id hid ⟨h1, h2⟩
    obtain ⟨B, hB⟩ := hsome id hid
    exact hyes id B hB (hfresh id h1 h2)
  let X' : Cr := ⟨X2.own, ⟨fun id => if nid ≤ id ∧ id < nid + (H'.length - m.length) then X2.ρ.r (id - nid + m.length) else (match indexOf m id with | some j => X2.ρ.r j | none => X1.ρ.r id),
    fun id => if nid ≤ id ∧ id < nid + (H'.length - m.length) then X2.ρ.n (id - nid + m.length) else (match indexOf m id with | some j => X2.ρ.n j | none => X1.ρ.n id)⟩⟩
  have hin : ∀ (j id : Nat), m[j]? = some id → X'.ρ.r id = X2.ρ.r j ∧ X'.ρ.n id = X2.ρ.n j := by
    intro j id hj
    have h1 := hnm id (List.mem_of_getElem? hj)
    have h2 := indexOf_get hm hj
    refine ⟨?_, ?_⟩
    · show (if _ then _ else _) = _
      rw [if_neg h1, h2]
    · show (if _ then _ else _) = _
      rw [if_neg h1, h2]
  have hout : ∀ id, id ∉ m → ¬ (nid ≤ id ∧ id < nid + (H'.length - m.length)) → X'.ρ.r id = X1.ρ.r id ∧ X'.ρ.n id = X1.ρ.n id := by
    intro id hid hr
    have h2 : indexOf m id = none := by
      cases h : indexOf m id with
      | none => rfl
      | some j => exact absurd (List.mem_of_getElem? (indexOf_some hm h)) hid
    refine ⟨?_, ?_⟩
    · show (if _ then _ else _) = _
      rw [if_neg hr, h2]
    · show (if _ then _ else _) = _
      rw [if_neg hr, h2]
  have hnew : ∀ id, nid ≤ id ∧ id < nid + (H'.length - m.length) → X'.ρ.r id = X2.ρ.r (id - nid + m.length) ∧ X'.ρ.n id = X2.ρ.n (id - nid + m.length) := by
    intro id hr
    refine ⟨?_, ?_⟩
    · show (if _ then _ else _) = _
      rw [if_pos hr]
    · show (if _ then _ else _) = _
      rw [if_pos hr]
  have hbk : ∀ (j id : Nat), backOf m nid j = some id → j < H'.length → X'.ρ.r id = X2.ρ.r j ∧ X'.ρ.n id = X2.ρ.n j := by
    intro j id hj hlt
    unfold backOf at hj
    cases hmj : m[j]? with
    | some id' =>
      simp only [hmj] at hj
      cases hj
      exact hin j id hmj
    | none =>
      simp only [hmj] at hj
      cases hj
      have hge : m.length ≤ j := by rw [List.getElem?_eq_none_iff] at hmj; exact hmj
      have := hnew (nid + (j - m.length)) ⟨by omega, by omega⟩
      rw [show nid + (j - m.length) - nid + m.length = j by omega] at this
      exact this
  have hlt2 : ∀ j, ¬ X2.ρ.no j → j < H'.length := fun j h => Classical.byContradiction fun h' => h (hdom j (by omega))
  have hren : ∀ (u : V) (y : Value), X2.vr w2 u y → X'.vr w2 (ren (backOf m nid) u) y := fun u y hu => ren_vr
    (fun j id p hj hp => by rw [(hbk j id hj (hlt2 j fun h => by rw [show X2.ρ j = none from h.1] at hp; cases hp)).1]; exact hp)
    (fun j id p hj hp => by rw [(hbk j id hj (hlt2 j fun h => by rw [h.2] at hp; cases hp)).2]; exact hp) hu
  have hE : Ext X1 w l1 X' w2 := by
    have hsub : ∀ b, (X1.sub m).live (lookH (subH l1 m)) b → X1.live l1 b := fun b h => by
      obtain ⟨id, B, s, z, _, hB, hρ⟩ := sub_live h
      exact ⟨id, B, s, z, hB, hρ⟩
    refine ⟨hst.os, hst.tape, hst.output, hst.size, fun id p hp => ?_, fun id p hp => ?_, fun b hb hn => hst.keep b hb (hn.imp id fun h h' => h (hsub b h')), fun b hb hn => hst.own b hb hn, fun b ho hn => hst.still b ho fun h => hn (hsub b h), hst.shape⟩
    · by_cases hid : id ∈ m
      · obtain ⟨j, hj⟩ := List.getElem?_of_mem hid
        rw [(hin j id hj).1]
        exact hst.rho j p (by simp [Cr.sub, hj, hp])
      · rw [(hout id hid fun h => by rw [show X1.ρ id = none from (hfresh id h.1 h.2).1] at hp; cases hp).1]
        exact hp
    · by_cases hid : id ∈ m
      · obtain ⟨j, hj⟩ := List.getElem?_of_mem hid
        rw [(hin j id hj).2]
        exact hst.rhon j p (by simp [Cr.sub, hj, hp])
      · rw [(hout id hid fun h => by rw [(hfresh id h.1 h.2).2] at hp; cases hp).2]
        exact hp
  -- each block behind the call
  have hcase : ∀ id B, newL (updL l1 (backUpd [] (backOf m nid) m H')) nid ((H'.drop m.length).map (·.map (renB (backOf m nid) true))) id = some B →
      (∃ j B', lookH H' j = some B' ∧ (X'.ρ.r id = X2.ρ.r j ∧ X'.ρ.n id = X2.ρ.n j) ∧ (B.sz = B'.sz ∧ B.ty = B'.ty ∧ B.lst = B'.lst ∧ B.lty = B'.lty ∧ B.es.length = B'.es.length) ∧ (∀ c s, Row X2 w2 B' c s → Row X' w2 B c s) ∧ backOf m nid j = some id) ∨ (id ∉ m ∧ l1 id = some B ∧ (X'.ρ.r id = X1.ρ.r id ∧ X'.ρ.n id = X1.ρ.n id)) := by
    intro id B h
    by_cases hr : nid ≤ id ∧ id < nid + (H'.length - m.length)
    · have hr' := hr
      obtain ⟨hr1, hr2⟩ := hr
      refine .inl ⟨id - nid + m.length, ?_⟩
      simp only [newL, if_pos hr1, List.getElem?_map, List.getElem?_drop] at h
      have hlt : m.length + (id - nid) < H'.length := by omega
      rw [List.getElem?_eq_getElem hlt] at h
      simp only [Option.map_some] at h
      obtain ⟨B', hB', rfl⟩ := Option.map_eq_some_iff.1 h
      refine ⟨B', ?_, hnew id hr', ⟨rfl, rfl, rfl, rfl, renB_len _ _ _⟩, fun c s hrow => renB_row hrow hren fun u y h => h, ?_⟩
      · simp only [lookH]
        rw [show id - nid + m.length = m.length + (id - nid) by omega, List.getElem?_eq_getElem hlt, hB']
      · unfold backOf
        rw [List.getElem?_eq_none (by omega)]
        simp only
        congr 1
        omega
    · have h' : updL l1 (backUpd [] (backOf m nid) m H') id = some B := by
        simp only [newL] at h
        split at h
        · rename_i hle
          rw [List.getElem?_eq_none (by simp; omega)] at h
          exact h
        · exact h
      obtain ⟨g1, g2⟩ := backUpd_get (backOf m nid) m H' l1 hm id
      by_cases hid : id ∈ m
      · obtain ⟨j, hj⟩ := List.getElem?_of_mem hid
        rw [g2 j hj] at h'
        have hjl : j < m.length := (List.getElem?_eq_some_iff.1 hj).1
        have hjH : j < H'.length := by omega
        rw [List.getElem?_eq_getElem hjH] at h'
        have hbk : backOf m nid j = some id := by simp [backOf, hj]
        cases hd : H'[j] with
        | none => simp [backB, hd] at h'
        | some B' =>
          have hlk : lookH H' j = some B' := by simp [lookH, List.getElem?_eq_getElem hjH, hd]
          simp only [backB, hd] at h'
          refine .inl ⟨j, B', hlk, hin j id hj, ?_⟩
          cases hdir : B'.dirty with
          | true =>
            simp only [hdir, if_true, Option.some.injEq] at h'
            subst h'
            exact ⟨⟨rfl, rfl, rfl, rfl, renB_len _ _ _⟩, fun c s hrow => renB_row hrow hren fun u y h => h, hbk⟩
          | false =>
            simp only [hdir, Bool.false_eq_true, if_false] at h'
            have hsame := hcl j B' (by simpa [subH] using hjl) (by rw [List.getElem?_eq_getElem hjH, hd]) hdir
            simp only [subH, List.getElem?_map, hj, Option.map_some, h', Option.some.injEq] at hsame
            subst hsame
            refine ⟨⟨rfl, rfl, rfl, rfl, (renB_len _ _ _).symm⟩, fun c s hrow => ?_, hbk⟩
            have hokB := hok id hid
            simp only [blkOk, h'] at hokB
            intro k e hk
            cases hs : B.sym with
            | true =>
              have hk' : (renB (indexOf m) false B).es[k]? = some e := by simpa [renB, hs] using hk
              obtain ⟨r1, r2⟩ := hrow k e hk'
              refine ⟨r1, fun q u hq => ?_⟩
              obtain ⟨y, hy, _, hir⟩ := r2 q u hq
              exact ⟨y, hy, .imm _ _ (hir (by simp [renB, hs])), fun _ => hir (by simp [renB, hs])⟩
            | false =>
              simp only [hs] at hokB
              have hk' : (renB (indexOf m) false B).es[k]? = some (ren (indexOf m) e) := by simp [renB, hs, renL_get, hk]
              obtain ⟨r1, r2⟩ := hrow k _ hk'
              rw [ren_cells, renL_len] at r1
              refine ⟨r1, fun q u hq => ?_⟩
              obtain ⟨y, hy, hvy, _⟩ := r2 q (ren (indexOf m) u) (by rw [ren_cells, renL_get, hq]; rfl)
              refine ⟨y, hy, ?_, fun h => by cases h⟩
              have hou : okV (indexOf m) u = true := by
                have hoe : okV (indexOf m) e = true := by
                  have : ∀ (vs : List V), okVs (indexOf m) vs = true → ∀ (k : Nat) (z : V), vs[k]? = some z → okV (indexOf m) z = true := by
                    intro vs
                    induction vs with
                    | nil => intro _ k z h; simp at h
                    | cons a vs ih =>
                      intro h k z hk
                      simp only [okVs, Bool.and_eq_true] at h
                      cases k with
                      | zero => simp at hk; subst hk; exact h.1
                      | succ k => exact ih h.2 k z (by simpa using hk)
                  exact this _ hokB k e hk
                have : ∀ (vs : List V), okVs (indexOf m) vs = true → ∀ (k : Nat) (z : V), vs[k]? = some z → okV (indexOf m) z = true := by
                  intro vs
                  induction vs with
                  | nil => intro _ k z h; simp at h
                  | cons a vs ih =>
                    intro h k z hk
                    simp only [okVs, Bool.and_eq_true] at h
                    cases k with
                    | zero => simp at hk; subst hk; exact h.1
                    | succ k => exact ih h.2 k z (by simpa using hk)
                cases e with
                | agg cs => exact this cs (by simpa [okV] using hoe) q u (by simpa [V.cells] using hq)
                | _ =>
                  cases q with
                  | zero => simp [V.cells] at hq; subst hq; exact hoe
                  | succ q => simp [V.cells] at hq
              have := hren _ y hvy
              rw [ren_back (f := indexOf m) (g := backOf m nid) (fun i j hj => by simp [backOf, indexOf_some hm hj]) u hou] at this
              exact this
      · rw [g1 hid] at h'
        exact .inr ⟨hid, h', hout id hid hr⟩
  have hframe : ∀ id B b s z, id ∉ m → l1 id = some B → X1.ρ id = some (b, s, z) → ¬ (X1.sub m).live (lookH (subH l1 m)) b := by
    intro id B b s z hid hB hρ hlv
    obtain ⟨id', B', s', z', hid', hB', hρ'⟩ := sub_live hlv
    exact hid (hl.inj id' id B' B _ _ hB' hB hρ' hρ rfl ▸ hid')
  refine ⟨X', { toExt := hE, rel := ⟨fun id B h => ?_, fun i j Bi Bj p q hi hj hp hq hpq => ?_, hst.rel.lt, hst.rel.gl⟩, nl := fun b hb => ?_ }, hren v x hv, fun id hno hr => ?_⟩
  · rcases hcase id B h with ⟨j, B', hB', ⟨hρ', hn'⟩, ⟨hsz, hty', hls', hlt', hle'⟩, hrow', _⟩ | ⟨hid, hB, hρ', hn'⟩
    · rcases hst.rel.blk j B' hB' with ⟨g1, g2, g3, g4, g5⟩ | ⟨b, s, c, e, hρ, ho, hb, hrow, hty, hls⟩
      · exact .inl ⟨hls'.trans g1, List.eq_nil_of_length_eq_zero (by rw [hle', g2]; rfl), hρ'.trans g3, hn'.trans g4, hty'.trans g5⟩
      · refine .inr ⟨b, s, c, e, by rw [show X'.ρ id = X2.ρ j from hρ', hρ, hsz], ho, hb, hrow' c s hrow, fun t ht => by obtain ⟨h1, h2, h3⟩ := hty t (hty' ▸ ht); exact ⟨h1, h2, by rw [h3, hsz]⟩, fun hl => ?_⟩
        obtain ⟨⟨cap, q1, q2, q3, q4⟩, q5⟩ := hls (hls' ▸ hl)
        exact ⟨⟨cap, by rw [hn', hle']; exact q1, q2, by rw [hle']; exact q3, by rw [hsz]; exact q4⟩, fun t ht => q5 t (hlt' ▸ ht)⟩
    · rcases hl.blk id B hB with hg | hr
      · exact .inl (hg.mono hρ' fun x hx => hn'.trans hx)
      · refine .inr (hr.ext hE fun b s z hρ => ?_)
        have hnl := hframe id B b s z hid hB hρ
        obtain ⟨_, _, _, _, hρ2, ho2, _⟩ := hr
        rw [hρ] at hρ2
        cases hρ2
        exact ⟨hst.still b ho2 hnl, hst.keep b (hl.lt b ho2) (.inr hnl)⟩
  · have hsep : ∀ (id : Nat) (B : Blk) (p : Nat × Nat × Nat), id ∉ m → l1 id = some B → X1.ρ id = some p → ∀ (j : Nat) (B' : Blk) (q : Nat × Nat × Nat), lookH H' j = some B' → X2.ρ j = some q → p.1 ≠ q.1 := by
      intro id B p hid hB hρ j B' q hB' hq he
      obtain ⟨b, s, z⟩ := p
      obtain ⟨b', s', z'⟩ := q
      dsimp only at he
      subst he
      obtain ⟨b0, s0, c0, e0, hρ0, ho0, hb0, _⟩ := hl.real hB hρ
      rw [hρ] at hρ0
      cases hρ0
      rcases hst.nl b ⟨j, B', s', z', hB', hq⟩ with h | h
      · have := hl.lt b ho0; omega
      · exact hframe id B b s _ hid hB hρ h
    rcases hcase i Bi hi with ⟨j1, B1, hB1, ⟨hρ1, _⟩, _, _, hb1⟩ | ⟨hid1, hB1, hρ1, _⟩ <;> rcases hcase j Bj hj with ⟨j2, B2, hB2, ⟨hρ2, _⟩, _, _, hb2⟩ | ⟨hid2, hB2, hρ2, _⟩
    · rw [show X'.ρ i = X2.ρ j1 from hρ1] at hp
      rw [show X'.ρ j = X2.ρ j2 from hρ2] at hq
      have := hst.rel.inj j1 j2 B1 B2 p q hB1 hB2 hp hq hpq
      subst this
      rw [hb1] at hb2
      exact Option.some.inj hb2
    · rw [show X'.ρ i = X2.ρ j1 from hρ1] at hp
      rw [show X'.ρ j = X1.ρ j from hρ2] at hq
      exact absurd hpq.symm (hsep j Bj q hid2 hB2 hq j1 B1 p hB1 hp)
    · rw [show X'.ρ i = X1.ρ i from hρ1] at hp
      rw [show X'.ρ j = X2.ρ j2 from hρ2] at hq
      exact absurd hpq (hsep i Bi p hid1 hB1 hp j2 B2 q hB2 hq)
    · rw [show X'.ρ i = X1.ρ i from hρ1] at hp
      rw [show X'.ρ j = X1.ρ j from hρ2] at hq
      exact hl.inj i j Bi Bj p q hB1 hB2 hp hq hpq
  · obtain ⟨id, B, s, z, hB, hρ⟩ := hb
    rcases hcase id B hB with ⟨j, B', hB', ⟨hρ', _⟩, _⟩ | ⟨hid, hB', hρ', _⟩
    · rw [show X'.ρ id = X2.ρ j from hρ'] at hρ
      rcases hst.nl b ⟨j, B', s, z, hB', hρ⟩ with h | h
      · exact .inl h
      · obtain ⟨id', B'', s', z', _, h1, h2⟩ := sub_live h
        exact .inr ⟨id', B'', s', z', h1, h2⟩
    · rw [show X'.ρ id = X1.ρ id from hρ'] at hρ
      exact .inr ⟨id, B, s, z, hB', hρ⟩
  · have hid : id ∉ m := fun hid => by
      obtain ⟨B, hB⟩ := hsome id hid
      exact hyes id B hB hno
    obtain ⟨h1, h2⟩ := hout id hid hr
    exact ⟨h1.trans hno.1, h2.trans hno.2⟩
theorem fzArgs_ok {X : Cr} {w : World} {l : Look} (hl : RelL X w l) (keep : Bool) (K : List Nat) : ∀ (vs vs' : List V) (ids : List Nat), fzArgs l keep vs = some (vs', ids) → (∀ i ∈ ids, i ∈ K) →
    vs'.length = vs.length ∧ ∀ (k : Nat) (u : V), vs[k]? = some u → ∃ u', vs'[k]? = some u' ∧ FzR X w l K u u'
  | [], vs', ids, h, _ => by simp [fzArgs] at h; obtain ⟨rfl, rfl⟩ := h; exact ⟨rfl, fun k u hk => by simp at hk⟩
  | v :: vs, vs', ids, h, hK => by
    simp only [fzArgs] at h
    split at h
    · rename_i x i xs j h1 h2
      cases h
      obtain ⟨g1, g2⟩ := fzArgs_ok hl keep K vs xs j h2 (fun k hk => hK k (by simp [hk]))
      refine ⟨by simp [g1], fun k u hk => ?_⟩
      cases k with
      | zero =>
        simp at hk
        subst hk
        refine ⟨x, by simp, ?_⟩
        cases keep with
        | true => simp at h1; obtain ⟨rfl, rfl⟩ := h1; exact fun y hy => hy.ext (less_step hl K).toExt
        | false => exact (fz_ok hl _ K 10000 v x i (by simpa using h1) (fun k hk => hK k (by simp [hk]))).1
      | succ k => simpa using g2 k u (by simpa using hk)
    · cases h
def Ex.to : Ex → Exit
  | .normal => .normal
  | .exit id => .exit id
  | .ret => .ret
/-- Deferred, on a normal return, it leaves all that was there as it was. -/
def QuietF (P : Program) (g : FuncId) (n : Nat) : Prop := ∀ (xs : Array Value) (w : World), xs.size = n → CallsD P g xs .returning w fun e u w' => (∃ v, e = .returned v) ∧ u = .returning ∧ RowKit.Below w.heap.size w w'
def QuietD (P : Program) (d : Deferred) : Prop := ∃ fv cap g xs, d.target = .fn fv cap ∧ (∀ w : World, (invoke d.target d.args).run P w = .ok (.enter g xs) w) ∧
  ∀ w : World, CallsD P g xs .returning w fun e u w' => (∃ v, e = .returned v) ∧ u = .returning ∧ RowKit.Below w.heap.size w w'
def Quiet (P : Program) (ds : List Deferred) : Prop := ∀ d, d ∈ ds → QuietD P d
theorem Quiet.nil {P : Program} : Quiet P [] := fun d h => by cases h
/-- The program is run in any order that it may be; what is listed as quiet is so. -/
def PGood (P : Program) : Prop := P.follows .mixedOrders = true ∧ ∀ g n, quietB g n = true → QuietF P g n
/-- The slots. -/
structure StR (P : Program) (X : Cr) (w : World) (T : List V) (H : Heap) (a : Act) : Prop where
  sr : SR X w T a
  rel : RelL X w (lookH H)
  dom : ∀ id, H.length ≤ id → X.ρ.no id
  defers : Quiet P a.defers
/-- What a piece of code comes to. -/
def SimC (P : Program) (c : Code) (T : List V) (H : Heap) (ex : Ex) (T' : List V) (H' : Heap) : Prop :=
  Clean H H' ∧ H.length ≤ H'.length ∧ ∀ (X : Cr) (w : World) (a : Act) (Q : Exit → Act → World → Prop), StR P X w T H a → (∀ X' w' a', StR P X' w' T' H' a' → Step X w (lookH H) X' w' (lookH H') → Q ex.to a' w') → c.wp P Q a w
/-- What the rounds of a loop come to. -/
def SimR (P : Program) (c : Code) (T : List V) (H : Heap) (ex : Ex) (T' : List V) (H' : Heap) : Prop :=
  Clean H H' ∧ H.length ≤ H'.length ∧ ∃ k, ∀ (X : Cr) (w : World) (a : Act) (Q : Exit → Act → World → Prop), StR P X w T H a → (∀ X' w' a', StR P X' w' T' H' a' → Step X w (lookH H) X' w' (lookH H') → Q ex.to a' w') → Code.rounds P c Q k a w
/-- What stands for the calls that the machine makes by itself, and for those that it is told, is so. -/
structure EnvOk (E : Env) : Prop where
  mixed : PGood E.P
  call : ∀ f a H v H', E.call f a H = some (v, H') → Sim E.P f a H v H'
  sim : ∀ f a H v H', E.sim f a H v H' → Sim E.P f a H v H'
  loop : ∀ c T H ex T' H', E.loop c T H ex T' H' → SimR E.P c T H ex T' H'
  code : ∀ c T H ex T' H', E.code c T H ex T' H' → SimC E.P c T H ex T' H'
theorem call_does {E : Env} (hE : EnvOk E) {X : Cr} {w : World} {l : Look} (hl : RelL X w l) {nid : Nat} {ps : List Ev} {ob : Prop} {f : FuncId} {args : List V} {r : Out} (h : doCall E l nid ps ob f args = some r) (hob : r.ob)
    (hfresh : ∀ k, nid ≤ k → k < nid + r.new.length → X.ρ.no k) {xs : Array Value} (hxl : args.length = xs.size) (hx : ∀ (j : Nat) (u : V) (x : Value), args[j]? = some u → xs[j]? = some x → X.vr w u x) :
    ob ∧ Calls E.P f xs w fun e w' => ∃ X' x, e = .returned x ∧ Good X w l nid r X' w' x := by
  unfold doCall at h
  split at h
  · cases h
  · rename_i vals kills hf
    simp only at h
    split at h
    · cases h
    rename_i m hreach
    split at h
    · rename_i hc
      simp only [Bool.and_eq_true] at hc
      obtain ⟨hnd, hbk⟩ := hc
      have hm := nodupB_spec hnd
      obtain ⟨f1, f2⟩ := fzArgs_ok hl _ kills args vals kills hf (fun i hi => hi)
      have h1 := less_step hl kills
      -- the rest, once it is known what the call comes to
      have main : ∀ (v : V) (H' : Heap) (ps' : List Ev) (ob' : Prop), fin nid m kills v H' ps' ob' = some r →
          Sim E.P f (renL (indexOf m) vals) (subH (lessL l kills) m) v H' →
          Calls E.P f xs w fun e w' => ∃ X' x, e = .returned x ∧ Good X w l nid r X' w' x := by
        intro v H' ps' ob' hfin hsim
        unfold fin at hfin
        split at hfin
        · rename_i hlen
          cases hfin
          obtain ⟨hcl, hcalls⟩ := hsim
          have hrl := sub_rel h1.rel hm
          refine (hcalls ((X.less l kills).sub m) w xs hrl (fun j hp => ?_) (by rw [renL_len, f1]; exact hxl) (fun j u x hj hjx => ?_)).mono ?_
          · have hmj : m[j]? = none := List.getElem?_eq_none (by simpa [subH] using hp)
            exact ⟨by simp [Cr.sub, hmj], by simp [Cr.sub, hmj]⟩
          · obtain ⟨u0, hu0, rfl⟩ := renL_get' hj
            have hjl : j < args.length := by rw [← f1]; exact (List.getElem?_eq_some_iff.1 hu0).1
            obtain ⟨u', hu', hfz⟩ := f2 j _ (List.getElem?_eq_getElem hjl)
            rw [hu0] at hu'
            cases hu'
            exact ren_vr (fun id i p hi hp => by simp [Cr.sub, indexOf_some hm hi, hp]) (fun id i p hi hp => by simp [Cr.sub, indexOf_some hm hi, hp]) (hfz x (hx j _ x (List.getElem?_eq_getElem hjl) hjx))
          · rintro e w' ⟨X2, x, rfl, hst, hv, hdom⟩
            simp only [List.length_map, List.length_drop] at hfresh
            obtain ⟨X', s1, s2, s3⟩ := call_back h1.rel hm (fun id hid => List.all_eq_true.1 hbk id hid) hst hcl hlen hv hdom (nid := nid) hfresh
            refine ⟨X', x, rfl, ?_, s2, fun id hp hr => ?_⟩
            · have := Step.trans hl h1 s1
              rw [updL_append, updL_kills]
              exact this
            · simp only [List.length_map, List.length_drop] at hr
              exact s3 id hp hr
        · cases hfin
      split at h
      · rename_i v H' ps' _
        have hh := h
        unfold fin at hh
        split at hh
        · cases hh
          exact ⟨hob.1, main v H' ps' _ h (hE.sim _ _ _ _ _ hob.2)⟩
        · cases hh
      · split at h
        · rename_i v H' hcall
          have hh := h
          unfold fin at hh
          split at hh
          · cases hh
            exact ⟨hob, main v H' _ _ h (hE.call _ _ _ _ _ hcall)⟩
          · cases hh
        · cases h
    · cases h
end Go.Im
