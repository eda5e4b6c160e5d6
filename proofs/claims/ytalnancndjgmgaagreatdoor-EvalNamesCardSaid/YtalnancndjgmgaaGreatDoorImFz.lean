/- The ideal machine: what is frozen. -/
import Derived.Test.YtalnancndjgmgaaGreatDoorImOpG
namespace Go.Im
/-- The blocks of K are nobody's any more. -/
def Cr.less (X : Cr) (l : Look) (K : List Nat) : Cr := ⟨fun b => X.own b ∧ ¬ ∃ id ∈ K, ∃ B s z, l id = some B ∧ X.ρ id = some (b, s, z), X.ρ⟩
def lessL (l : Look) (K : List Nat) : Look := fun id => if K.contains id then none else l id
theorem less_step {X : Cr} {w : World} {l : Look} (hl : RelL X w l) (K : List Nat) : Step X w l (X.less l K) w (lessL l K) := by
  have sub : ∀ i B, lessL l K i = some B → l i = some B ∧ i ∉ K := by
    intro i B h
    simp only [lessL] at h
    split at h
    · cases h
    · rename_i hk; exact ⟨h, by simpa using hk⟩
  have hE : Ext X w l (X.less l K) w := by
    refine ⟨rfl, rfl, rfl, Nat.le_refl _, fun _ _ h => h, fun _ _ h => h, fun _ _ _ => rfl, fun _ _ h h' => h h'.1, fun b ho hn => ⟨ho, ?_⟩, fun _ c _ f h => ⟨c, f, h, rfl⟩⟩
    rintro ⟨id, _, B, s, z, hB, hρ⟩
    exact hn ⟨id, B, s, z, hB, hρ⟩
  refine { toExt := hE, rel := ⟨fun i B h => ?_, fun i j Bi Bj p q hi hj => hl.inj i j Bi Bj p q (sub i Bi hi).1 (sub j Bj hj).1, fun b h => hl.lt b h.1, hl.gl.ext hE⟩, nl := fun b ⟨i, B, s, z, h, hρ⟩ => .inr ⟨i, B, s, z, (sub i B h).1, hρ⟩ }
  obtain ⟨h1, h2⟩ := sub i B h
  rcases hl.blk i B h1 with hg | hr
  · exact .inl hg
  · refine .inr (hr.ext hE fun b s z hρ => ?_)
    obtain ⟨_, _, _, _, hρ2, ho2, _⟩ := hr
    rw [hρ] at hρ2
    cases hρ2
    refine ⟨⟨ho2, ?_⟩, rfl⟩
    rintro ⟨id, hid, B', s', z', hB', hρ'⟩
    exact h2 (hl.inj id i B' B _ _ hB' h1 hρ' hρ rfl ▸ hid)
theorem not_own {X : Cr} {l : Look} {K : List Nat} {id b s z : Nat} {B : Blk} (hB : l id = some B) (hρ : X.ρ id = some (b, s, z)) (hid : id ∈ K) : ¬ (X.less l K).own b :=
  fun h => h.2 ⟨id, hid, B, s, z, hB, hρ⟩
/-- One value's freezing. -/
def FzR (X : Cr) (w : World) (l : Look) (K : List Nat) (v v' : V) : Prop := ∀ x, X.vr w v x → (X.less l K).vr w v' x
theorem pure_cells {e : V} (h : pureL e.cells = true) {j : Nat} {v : V} (hj : e.cells[j]? = some v) : v.pure = true := pureL_get h hj
mutual
theorem fz_ok {X : Cr} {w : World} {l : Look} (hl : RelL X w l) (res : Nat → Bool) (K : List Nat) : ∀ (n : Nat) (v v' : V) (ids : List Nat), fz l res n v = some (v', ids) → (∀ i ∈ ids, i ∈ K) →
    FzR X w l K v v' ∧ v'.cells.length = v.cells.length ∧ ∀ (j : Nat) (u : V), v.cells[j]? = some u → ∃ u', v'.cells[j]? = some u' ∧ FzR X w l K u u'
  | 0, _, _, _, h, _ => by simp [fz] at h
  | n + 1, v, v', ids, h, hK => by
    have hst := less_step hl K
    have same : ∀ {u : V}, FzR X w l K u u := fun x hx => hx.ext hst.toExt
    have lift : ∀ {a a' : V}, a.cells = [a] → a'.cells = [a'] → FzR X w l K a a' → FzR X w l K a a' ∧ a'.cells.length = a.cells.length ∧ ∀ (j : Nat) (u : V), a.cells[j]? = some u → ∃ u', a'.cells[j]? = some u' ∧ FzR X w l K u u' := by
      intro a a' h1 h2 h3
      refine ⟨h3, by rw [h1, h2]; rfl, fun j u hj => ?_⟩
      rw [h1] at hj
      cases j with
      | zero => simp at hj; subst hj; exact ⟨a', by rw [h2]; rfl, h3⟩
      | succ j => simp at hj
    have reps : ∀ {u : V}, FzR X w l K u u ∧ u.cells.length = u.cells.length ∧ ∀ (j : Nat) (z : V), u.cells[j]? = some z → ∃ u', u.cells[j]? = some u' ∧ FzR X w l K z u' := fun {u} => ⟨same, rfl, fun j z hj => ⟨z, hj, same⟩⟩
    simp only [fz] at h
    split at h
    · rename_i id i len
      split at h
      · rename_i B hB
        split at h
        · rename_i hsym
          split at h
          · rename_i hc
            obtain ⟨rfl, rfl⟩ := hc
            cases h
            refine lift rfl rfl fun x hx => ?_
            obtain ⟨b, s0, sz, o, cap, c, e, f, hρ, hle, ho, hb, hcc, rfl⟩ := vr_msl hx
            obtain ⟨b', s', c', t', hρ', hown, hb', hrow, hty⟩ := hl.real hB hρ
            rw [hρ] at hρ'
            cases hρ'
            rw [hb] at hb'
            cases hb'
            by_cases h0 : B.es = []
            · rw [h0]; exact .imm _ _ (.isl0 _ _ _)
            · have hpos : 0 < B.es.length := List.length_pos_iff.2 h0
              have ho' : o = s0 + 0 * B.sz := ho.resolve_left (by omega)
              refine .imm _ _ (.isl true B.es b o cap B.sz c _ (0, 0) (fun k j => (c[o + k * B.sz + j]?).getD undef) hle (not_own hB hρ (hK id (by simp))) hb (fun k e hk => (hrow k e hk).1) (fun k e j v hk hj => ?_) (fun k e j v hk hj => ?_))
              · obtain ⟨x, hx, hv, hs⟩ := (hrow k e hk).2 j v hj
                have : c[o + k * B.sz + j]? = some x := by rw [← hx, ho']; congr 1; omega
                rw [this]; rfl
              · obtain ⟨x, hx, hv, hs⟩ := (hrow k e hk).2 j v hj
                have : c[o + k * B.sz + j]? = some x := by rw [← hx, ho']; congr 1; omega
                rw [this]; exact (hs hsym).ext hst.toExt
          · cases h
        · rename_i hsym
          split at h
          · rename_i hle0
            split at h
            · rename_i xs ids' hf
              split at h
              · rename_i hp
                cases h
                obtain ⟨f1, f2⟩ := fzL_ok hl res K n _ xs ids' hf (fun i hi => hK i (by simp [hi]))
                refine lift rfl rfl fun x hx => ?_
                obtain ⟨b, s0, sz, o, cap, c, e, f, hρ, hle, ho, hb, hcc, rfl⟩ := vr_msl hx
                obtain ⟨b', s', c', t', hρ', hown, hb', hrow, hty⟩ := hl.real hB hρ
                rw [hρ] at hρ'
                cases hρ'
                rw [hb] at hb'
                cases hb'
                have hlen : ((B.es.drop i).take len).length = len := by simp; omega
                rw [hlen] at f1
                by_cases h0 : len = 0
                · subst h0
                  have : xs = [] := List.eq_nil_of_length_eq_zero f1
                  subst this
                  exact .imm _ _ (.isl0 _ _ _)
                · have ho' : o = s0 + i * B.sz := ho.resolve_left (by omega)
                  have hget : ∀ (k : Nat) (e : V), xs[k]? = some e → ∃ e0, B.es[i + k]? = some e0 ∧ e.cells.length = e0.cells.length ∧ ∀ (j : Nat) (u : V), e0.cells[j]? = some u → ∃ u', e.cells[j]? = some u' ∧ FzR X w l K u u' := by
                    intro k e he
                    have hk : k < len := by rw [← f1]; exact (List.getElem?_eq_some_iff.1 he).1
                    have hk2 : i + k < B.es.length := by omega
                    have he0 : ((B.es.drop i).take len)[k]? = some B.es[i + k] := by rw [List.getElem?_take, if_pos hk, List.getElem?_drop, List.getElem?_eq_getElem hk2]
                    obtain ⟨e', he', q1, q2, q3⟩ := f2 k _ he0
                    rw [he] at he'
                    cases he'
                    exact ⟨_, List.getElem?_eq_getElem hk2, q2, q3⟩
                  have hcell : ∀ (k : Nat) (e : V) (j : Nat) (v : V), xs[k]? = some e → e.cells[j]? = some v → ∃ x, c[o + k * B.sz + j]? = some x ∧ IR w.heap (X.less l K).own v x := by
                    intro k e j v hk hj
                    obtain ⟨e0, he0, q2, q3⟩ := hget k e hk
                    have hjl : j < e0.cells.length := by rw [← q2]; exact (List.getElem?_eq_some_iff.1 hj).1
                    obtain ⟨u', hu', hfz⟩ := q3 j _ (List.getElem?_eq_getElem hjl)
                    rw [hj] at hu'
                    cases hu'
                    obtain ⟨x, hx, hv, _⟩ := (hrow _ e0 he0).2 j _ (List.getElem?_eq_getElem hjl)
                    refine ⟨x, by rw [← hx, ho']; congr 1; rw [Nat.add_mul]; omega, pure_ir (hfz x hv) ?_⟩
                    have hpe := pureL_get hp hk
                    cases e <;> first
                      | (simp only [V.cells] at hj
                         cases j with
                         | zero => simp at hj; subst hj; exact hpe
                         | succ j => simp at hj)
                      | (simp only [V.cells] at hj
                         exact pureL_get (by simpa [V.pure] using hpe) hj)
                  have hxs : xs.length = len := f1
                  have := IR.isl (h := w.heap) (own := (X.less l K).own) false xs b o cap B.sz c _ (0, 0) (fun k j => (c[o + k * B.sz + j]?).getD undef) (by omega) (not_own hB hρ (hK id (by simp))) hb
                    (fun k e hk => by obtain ⟨e0, he0, q2, _⟩ := hget k e hk; rw [q2]; exact (hrow _ e0 he0).1)
                    (fun k e j v hk hj => by obtain ⟨x, hx, _⟩ := hcell k e j v hk hj; rw [hx]; rfl)
                    (fun k e j v hk hj => by obtain ⟨x, hx, hi⟩ := hcell k e j v hk hj; rw [hx]; exact hi)
                  rw [hxs] at this
                  exact .imm _ _ this
              · cases h
            · cases h
          · cases h
      · cases h
    · rename_i id i off
      split at h
      · split at h
        · rename_i B hB
          split at h
          · rename_i e he
            split at h
            · rename_i e' ids' hf
              split at h
              · rename_i hp
                cases h
                obtain ⟨f1, f2, f3⟩ := fz_ok hl res K n e e' ids' hf (fun i hi => hK i (by simp [hi]))
                refine lift rfl rfl fun x hx => ?_
                obtain ⟨b, s, sz, hρ, rfl⟩ := vr_mptr hx
                obtain ⟨b', s', c, t', hρ', ho, hb, hrow, hty⟩ := hl.real hB hρ
                rw [hρ] at hρ'
                cases hρ'
                have hcell : ∀ (j : Nat) (v : V), e'.cells[j]? = some v → ∃ x, c[s + i * B.sz + j]? = some x ∧ IR w.heap (X.less l K).own v x := by
                  intro j v hj
                  have hjl : j < e.cells.length := by rw [← f2]; exact (List.getElem?_eq_some_iff.1 hj).1
                  obtain ⟨u', hu', hfz⟩ := f3 j _ (List.getElem?_eq_getElem hjl)
                  rw [hj] at hu'
                  cases hu'
                  obtain ⟨x, hx, hv, _⟩ := (hrow _ e he).2 j _ (List.getElem?_eq_getElem hjl)
                  exact ⟨x, hx, pure_ir (hfz x hv) (pure_cells hp.1 hj)⟩
                exact .imm _ _ (.iptr e' off b (s + i * B.sz) c t' (0, 0) (fun j => (c[s + i * B.sz + j]?).getD undef) (not_own hB hρ (hK id (by simp))) hb
                  (fun j v hj => by obtain ⟨x, hx, _⟩ := hcell j v hj; rw [hx]; rfl) (fun j v hj => by obtain ⟨x, hx, hi⟩ := hcell j v hj; rw [hx]; exact hi))
              · cases h
            · cases h
          · cases h
        · cases h
      · cases h; exact reps
    · rename_i id
      split at h
      · rename_i B hB
        split at h
        · rename_i hlst
          have hid0 : ∀ (xs : List V) (c : Array Value) (b s cap : Nat) (e : TypeId) (y : Bool), X.ρ id = some (b, s, B.sz) → w.heap[b]? = some (Obj.cells c e (0, 0)) → xs.length = B.es.length → B.es.length ≤ cap → id ∈ K → (∀ (k : Nat) (e : V), xs[k]? = some e → e.cells.length = B.sz) →
              (∀ (k : Nat) (e : V) (j : Nat) (v : V), xs[k]? = some e → e.cells[j]? = some v → ∃ x, c[s + k * B.sz + j]? = some x ∧ IR w.heap (X.less l K).own v x) → (X.less l K).vr w (.isl y xs) (.slice (some ⟨b, s, none⟩) B.es.length cap) := by
            intro xs c b s cap e y hρ hb hlen hle hid hszs hcell
            by_cases h0 : xs = []
            · subst h0
              rw [← hlen]
              exact .imm _ _ (.isl0 _ _ _)
            · have := IR.isl (h := w.heap) (own := (X.less l K).own) y xs b s cap B.sz c e (0, 0) (fun k j => (c[s + k * B.sz + j]?).getD undef) (by omega) (not_own hB hρ hid) hb hszs
                (fun k e j v hk hj => by obtain ⟨x, hx, _⟩ := hcell k e j v hk hj; rw [hx]; rfl)
                (fun k e j v hk hj => by obtain ⟨x, hx, hi⟩ := hcell k e j v hk hj; rw [hx]; exact hi)
              rw [hlen] at this
              exact .imm _ _ this
          split at h
          · rename_i hsym
            cases h
            refine lift rfl rfl fun x hx => ?_
            have hn := vr_osl hx
            rcases hl.blk id B hB with hg | hr
            · rw [hg.2.2.2.1] at hn
              cases hn
              rw [hg.2.1]
              exact .imm _ _ (.isl0 _ _ _)
            · obtain ⟨b, s, c, e, hρ, hown, hb, hrow, hty, hls⟩ := hr
              obtain ⟨⟨cap, g1, g2, g3, g4⟩, _⟩ := hls hlst
              rw [hn] at g1
              cases g1
              refine hid0 B.es c b s cap e true hρ hb rfl g3 (hK id (by simp)) (fun k e hk => (hrow k e hk).1) fun k e j v hk hj => ?_
              obtain ⟨x, hx, hv, hs⟩ := (hrow k e hk).2 j v hj
              exact ⟨x, hx, (hs hsym).ext hst.toExt⟩
          · split at h
            · rename_i xs ids' hf
              split at h
              · rename_i hp
                cases h
                obtain ⟨f1, f2⟩ := fzL_ok hl res K n _ xs ids' hf (fun i hi => hK i (by simp [hi]))
                refine lift rfl rfl fun x hx => ?_
                have hn := vr_osl hx
                rcases hl.blk id B hB with hg | hr
                · rw [hg.2.2.2.1] at hn
                  cases hn
                  rw [hg.2.1] at f1
                  rw [List.eq_nil_of_length_eq_zero f1]
                  exact .imm _ _ (.isl0 _ _ _)
                · obtain ⟨b, s, c, e, hρ, hown, hb, hrow, hty, hls⟩ := hr
                  obtain ⟨⟨cap, g1, g2, g3, g4⟩, _⟩ := hls hlst
                  rw [hn] at g1
                  cases g1
                  have hget : ∀ (k : Nat) (e : V), xs[k]? = some e → ∃ e0, B.es[k]? = some e0 ∧ e.cells.length = e0.cells.length ∧ ∀ (j : Nat) (u : V), e0.cells[j]? = some u → ∃ u', e.cells[j]? = some u' ∧ FzR X w l K u u' := by
                    intro k e he
                    have hk : k < B.es.length := by rw [← f1]; exact (List.getElem?_eq_some_iff.1 he).1
                    obtain ⟨e', he', q1, q2, q3⟩ := f2 k _ (List.getElem?_eq_getElem hk)
                    rw [he] at he'
                    cases he'
                    exact ⟨_, List.getElem?_eq_getElem hk, q2, q3⟩
                  refine hid0 xs c b s cap e false hρ hb f1 g3 (hK id (by simp)) (fun k e hk => by obtain ⟨e0, he0, q2, _⟩ := hget k e hk; rw [q2]; exact (hrow _ e0 he0).1) fun k e j v hk hj => ?_
                  obtain ⟨e0, he0, q2, q3⟩ := hget k e hk
                  have hjl : j < e0.cells.length := by rw [← q2]; exact (List.getElem?_eq_some_iff.1 hj).1
                  obtain ⟨u', hu', hfz⟩ := q3 j _ (List.getElem?_eq_getElem hjl)
                  rw [hj] at hu'
                  cases hu'
                  obtain ⟨x, hx, hv, _⟩ := (hrow _ e0 he0).2 j _ (List.getElem?_eq_getElem hjl)
                  exact ⟨x, hx, pure_ir (hfz x hv) (pure_cell (pureL_get hp hk) hj)⟩
              · cases h
            · cases h
        · cases h
      · cases h
    · cases h
      exact lift rfl rfl fun x hx => by rw [vr_nils hx]; exact .imm _ _ (.isl0 _ _ _)
    · rename_i cs
      split at h
      · rename_i cs' ids' hf
        cases h
        obtain ⟨f1, f2⟩ := fzL_ok hl res K n _ cs' ids hf hK
        have f3 : ∀ (j : Nat) (u : V), (V.agg _).cells[j]? = some u → ∃ u', (V.agg cs').cells[j]? = some u' ∧ FzR X w l K u u' := fun j u hj => by
          obtain ⟨u', hu', q, _⟩ := f2 j u hj
          exact ⟨u', hu', q⟩
        refine ⟨fun x hx => ?_, f1, f3⟩
        obtain ⟨xs, rfl, hle, hr⟩ := vr_agg hx
        refine .agg cs' xs (by omega) fun j v x hj hx => ?_
        have hjl : j < cs.length := by rw [← f1]; exact (List.getElem?_eq_some_iff.1 hj).1
        obtain ⟨u', hu', q⟩ := f3 j _ (List.getElem?_eq_getElem hjl)
        simp only [V.cells] at hu'
        rw [hj] at hu'
        cases hu'
        exact q x (hr j _ x (List.getElem?_eq_getElem hjl) hx)
      · cases h
    · rename_i cs
      split at h
      · rename_i cs' ids' hf
        cases h
        obtain ⟨f1, f2⟩ := fzL_ok hl res K n _ cs' ids hf hK
        refine lift rfl rfl fun x hx => ?_
        obtain ⟨xs, rfl, hle, hr⟩ := vr_tup hx
        refine .tup cs' xs (by omega) fun j v x hj hx => ?_
        have hjl : j < cs.length := by rw [← f1]; exact (List.getElem?_eq_some_iff.1 hj).1
        obtain ⟨u', hu', q, _⟩ := f2 j _ (List.getElem?_eq_getElem hjl)
        rw [hj] at hu'
        cases hu'
        exact q x (hr j _ x (List.getElem?_eq_getElem hjl) hx)
      · cases h
    · cases h
    · cases h
    · cases h; exact reps
theorem fzL_ok {X : Cr} {w : World} {l : Look} (hl : RelL X w l) (res : Nat → Bool) (K : List Nat) : ∀ (n : Nat) (vs vs' : List V) (ids : List Nat), fzL l res n vs = some (vs', ids) → (∀ i ∈ ids, i ∈ K) →
    vs'.length = vs.length ∧ ∀ (k : Nat) (u : V), vs[k]? = some u → ∃ u', vs'[k]? = some u' ∧ FzR X w l K u u' ∧ u'.cells.length = u.cells.length ∧ ∀ (j : Nat) (z : V), u.cells[j]? = some z → ∃ z', u'.cells[j]? = some z' ∧ FzR X w l K z z'
  | 0, _, _, _, h, _ => by simp [fzL] at h
  | n + 1, [], vs', ids, h, _ => by simp [fzL] at h; obtain ⟨rfl, rfl⟩ := h; exact ⟨rfl, fun k u hk => by simp at hk⟩
  | n + 1, x :: xs, vs', ids, h, hK => by
    simp only [fzL] at h
    split at h
    · rename_i x' i xs' j h1 h2
      cases h
      obtain ⟨f1, f2, f3⟩ := fz_ok hl res K n x x' i h1 (fun k hk => hK k (by simp [hk]))
      obtain ⟨g1, g2⟩ := fzL_ok hl res K n xs xs' j h2 (fun k hk => hK k (by simp [hk]))
      refine ⟨by simp [g1], fun k u hk => ?_⟩
      cases k with
      | zero => simp at hk; subst hk; exact ⟨x', by simp, f1, f2, f3⟩
      | succ k => simpa using g2 k u (by simpa using hk)
    · cases h
end
end Go.Im
