/- The ideal machine: loads and stores. -/
import Derived.Test.YtalnancndjgmgaaGreatDoorImOpA
namespace Go.Im
theorem info_of_underlying {P : Program} {t : TypeId} {d : TypeDesc} (h : P.underlying t = some d) : ∃ i, P.info? t = some i := by
  unfold Program.underlying at h
  cases hi : P.info? t with
  | none => simp [hi] at h
  | some i => exact ⟨i, rfl⟩
theorem run_sizeOf' {P : Program} {t : TypeId} (h : (P.info? t).isSome) (w : World) : (sizeOf t).run P w = .ok (P.cellsOf t) w := by
  obtain ⟨i, hi⟩ := Option.isSome_iff_exists.1 h
  simp [sizeOf, typeInfo, hi, Program.cellsOf]
theorem run_isAgg' {P : Program} {t : TypeId} {d : TypeDesc} (h : P.underlying t = some d) (w : World) : (isAgg t).run P w = .ok (aggD d) w := by
  simp only [isAgg, Sem.run_bind, run_underlying h, Result.andThen_ok]
  cases d <;> rfl
theorem add_off (b q n : Nat) : Addr.add ⟨b, q, none⟩ n = ⟨b, q + n, none⟩ := by
  unfold Addr.add; split
  · subst_vars; rfl
  · rfl
theorem cell_of {w : World} {b q : Nat} {c : Array Value} {t : TypeId} {f : Nat × Nat} (hb : w.heap[b]? = some (Obj.cells c t f)) : w.cell? ⟨b, q, none⟩ = c[q]? := by
  simp [World.cell?, hb]
theorem part_run {P : Program} {X : Cr} {w : World} {t : TypeId} {e v : V} {off b q : Nat} (hp : partOf P t e off = some v)
    (hm : ∀ (j : Nat) (u : V), e.cells[j]? = some u → ∃ y, w.cell? ⟨b, q + j, none⟩ = some y ∧ X.vr w u y) :
    ∃ y, (loadVar t ⟨b, q + off, none⟩).run P w = .ok y w ∧ X.vr w v y := by
  unfold partOf at hp
  cases hu : P.underlying t with
  | none => simp [hu] at hp
  | some d =>
    simp only [hu] at hp
    simp only [loadVar, Sem.run_bind, run_isAgg' hu, Result.andThen_ok]
    cases hd : aggD d with
    | true =>
      simp only [hd] at hp
      cases e with
      | agg cs =>
        simp only at hp
        split at hp
        · rename_i hle
          cases hp
          have hrun := run_loadCells (P := P) w ⟨b, q + off, none⟩ (P.cellsOf t) (fun j => (w.cell? ⟨b, q + off + j, none⟩).getD undef) (fun j hj => by
            rw [add_off]
            have hlt : off + j < cs.length := by omega
            obtain ⟨y, hy, _⟩ := hm (off + j) cs[off + j] (by simp [V.cells, hlt])
            rw [← Nat.add_assoc] at hy
            simp [hy])
          have hsz := run_sizeOf' (P := P) (t := t) (by obtain ⟨i, hi⟩ := info_of_underlying hu; simp [hi]) w
          refine ⟨.agg ((List.range (P.cellsOf t)).map fun j => (w.cell? ⟨b, q + off + j, none⟩).getD undef).toArray, by simp only [if_true, Sem.run_bind, hsz, Result.andThen_ok, hrun, Sem.run_pure], ?_⟩
          refine .agg _ _ (by simp; omega) fun j u y hj hy => ?_
          have hjl : j < P.cellsOf t := by
            have := (List.getElem?_eq_some_iff.1 hj).1
            simp at this; omega
          have hcs : cs[off + j]? = some u := by simpa [List.getElem?_take, List.getElem?_drop, hjl] using hj
          obtain ⟨z, hz, hvz⟩ := hm (off + j) u hcs
          rw [← Nat.add_assoc] at hz
          simp [hjl, hz] at hy
          subst hy
          exact hvz
        · cases hp
      | _ => simp at hp
    | false =>
      simp only [hd] at hp
      obtain ⟨y, hy, hv⟩ := hm off v hp
      exact ⟨y, by simp [hy], hv⟩
theorem iptr_mem {X : Cr} {w : World} {e : V} {off : Nat} {x : Value} (hx : IR w.heap X.own (.iptr e off) x) :
    ∃ b o, x = .pointer (some ⟨b, o + off, none⟩) ∧ ∀ (j : Nat) (u : V), e.cells[j]? = some u → ∃ y, w.cell? ⟨b, o + j, none⟩ = some y ∧ X.vr w u y := by
  cases hx with
  | iptr _ _ b o c t f xv hown hb hc hr => exact ⟨b, o, rfl, fun j u hj => ⟨xv j, by rw [cell_of hb]; exact hc j u hj, .imm _ _ (hr j u hj)⟩⟩
theorem mptr_mem {X : Cr} {w : World} {l : Look} (hl : RelL X w l) {id i off : Nat} {x : Value} (hx : X.vr w (.mptr id i off) x) {B : Blk} (hB : l id = some B) {e : V} (he : B.es[i]? = some e) :
    ∃ b s, x = .pointer (some ⟨b, s + i * B.sz + off, none⟩) ∧ ∀ (j : Nat) (u : V), e.cells[j]? = some u → ∃ y, w.cell? ⟨b, s + i * B.sz + j, none⟩ = some y ∧ X.vr w u y := by
  obtain ⟨b, s, sz, hρ, rfl⟩ := vr_mptr hx
  obtain ⟨b', s', c, t, hρ', ho, hb, hrow, hty⟩ := hl.real hB hρ
  rw [hρ] at hρ'
  cases hρ'
  refine ⟨b, s, rfl, fun j u hj => ?_⟩
  obtain ⟨_, hcell⟩ := hrow i e he
  obtain ⟨y, hy, hv, _⟩ := hcell j u hj
  exact ⟨y, by rw [cell_of hb]; exact hy, hv⟩
/-- The same, where what is told of the element may be less. -/
theorem mptr_mem' {X : Cr} {w : World} {l : Look} (hl : RelL X w l) {id i off : Nat} {x : Value} (hx : X.vr w (.mptr id i off) x) {B : Blk} (hB : l id = some B) {e : V} {ps ps' : List Ev} {ob ob' : Prop} (he : elemAt B.sym B.es i ps ob = some (e, ps', ob')) (hob : ob') :
    ob ∧ ∃ b s, x = .pointer (some ⟨b, s + i * B.sz + off, none⟩) ∧ ∀ (j : Nat) (u : V), e.cells[j]? = some u → ∃ y, w.cell? ⟨b, s + i * B.sz + j, none⟩ = some y ∧ X.vr w u y := by
  cases hs : B.sym with
  | false =>
    rw [hs] at he
    simp only [elemAt] at he
    obtain ⟨e', he', h'⟩ := Option.map_eq_some_iff.1 he
    cases h'
    exact ⟨hob, mptr_mem hl hx hB he'⟩
  | true =>
    obtain ⟨h0, u, hu, _, huc⟩ := elemAt_ob he hob
    refine ⟨h0, ?_⟩
    obtain ⟨b, s, sz, hρ, rfl⟩ := vr_mptr hx
    obtain ⟨b', s', c, t, hρ', ho, hb, hrow, hty⟩ := hl.real hB hρ
    rw [hρ] at hρ'
    cases hρ'
    refine ⟨b, s, rfl, fun j v hj => ?_⟩
    obtain ⟨v', hv', hi⟩ := huc j v hj
    obtain ⟨_, hcell⟩ := hrow i u hu
    obtain ⟨y, hy, _, hir⟩ := hcell j v' hv'
    exact ⟨y, by rw [cell_of hb]; exact hy, .imm _ _ (hi _ _ _ (hir hs))⟩
theorem load_run {P : Program} {X : Cr} {w : World} {l : Look} (hl : RelL X w l) {t : TypeId} {p : V} {x : Value} {ps : List Ev} {ob : Prop} {r : Out}
    (h : opLoad P l t p ps ob = some r) (hx : X.vr w p x) (hob : r.ob) :
    r.upd = [] ∧ r.new = [] ∧ ob ∧ ∃ y, (Instr.loadAt t x).run P w = .ok y w ∧ X.vr w r.v y := by
  unfold opLoad at h
  split at h
  · rename_i e off
    split at h
    · rename_i v hv
      cases h
      obtain ⟨b, o, rfl, hm⟩ := iptr_mem (vr_iptr hx)
      obtain ⟨y, hy, hvy⟩ := part_run hv hm
      exact ⟨rfl, rfl, hob, y, by simp [Instr.loadAt, Instr.sureAddr, hy], hvy⟩
    · cases h
  · rename_i id i off
    split at h
    · rename_i B hB
      split at h
      · rename_i e ps' ob' he
        split at h
        · rename_i v hv
          cases h
          obtain ⟨h0, b, s, rfl, hm⟩ := mptr_mem' hl hx hB he hob
          obtain ⟨y, hy, hvy⟩ := part_run hv hm
          exact ⟨rfl, rfl, h0, y, by simp [Instr.loadAt, Instr.sureAddr, hy], hvy⟩
        · cases h
      · cases h
    · cases h
  · cases h
def updL (l : Look) : List (Nat × Option Blk) → Look
  | [] => l
  | (id, b) :: r => updL (fun i => if i = id then b else l i) r
def newL (l : Look) (nid : Nat) (news : List (Option Blk)) : Look := fun i => if nid ≤ i then (match news[i - nid]? with | some b => b | none => l i) else l i
theorem newL_nil (l : Look) (nid : Nat) : newL l nid [] = l := by funext i; simp [newL]
/-- One block of the call's own is written. -/
theorem write_step {X : Cr} {w : World} {l : Look} (hl : RelL X w l) {id b s : Nat} {B B' : Blk} {c c' : Array Value} {t : TypeId} (hB : l id = some B) (hρ : X.ρ id = some (b, s, B.sz))
    (hb : w.heap[b]? = some (Obj.cells c t (0, 0))) (hsize : c'.size = c.size) (hsz : B'.sz = B.sz) (hrow : ∀ X' w', Ext X w l X' w' → Row X' w' B' c' s) (hty : B'.ty = B.ty := by rfl)
    (hlst : B'.lst = B.lst ∧ B'.lty = B.lty ∧ B'.es.length = B.es.length) :
    Step X w l X (w.setRow b c') (updL l [(id, some B')]) := by
  obtain ⟨b0, s0, c0, t0, hρ0, ho, hb0, hrow0, hty0, hlst0⟩ := hl.real hB hρ
  rw [hρ] at hρ0
  cases hρ0
  have hblt := heap_lt hb
  have hlive : X.live l b := ⟨id, B, s, B.sz, hB, hρ⟩
  have hE : Ext X w l X (w.setRow b c') := by
    refine ⟨rfl, rfl, rfl, by simp, fun _ _ h => h, fun _ _ h => h, fun k hk hn => ?_, fun _ _ h => h, fun _ h _ => h, fun k d e f hk => ?_⟩
    · refine setRow_other w b k c' ?_
      rintro rfl
      exact hn.elim (fun h => h ho) (fun h => h hlive)
    · by_cases hkb : k = b
      · subst hkb
        rw [hb] at hk
        cases hk
        exact ⟨c', _, setRow_heap w k c c' t (0, 0) hb, hsize⟩
      · exact ⟨d, f, by rw [setRow_other w b k c' hkb]; exact hk, rfl⟩
  refine { toExt := hE, rel := ⟨fun i Bi hi => ?_, fun i j Bi Bj p q hi hj hp hq hpq => ?_, fun k hk => by simpa using hl.lt k hk, hl.gl.ext hE⟩, nl := fun k hk => ?_ }
  · simp only [updL] at hi
    split at hi
    · cases hi
      subst_vars
      refine .inr ⟨b, s, c', t, by rw [hsz]; exact hρ, ho, setRow_heap w b c c' t (0, 0) hb, hrow _ _ hE, fun t' h => by rw [hb] at hb0; cases hb0; obtain ⟨h1, h2, h3⟩ := hty0 t' (hty ▸ h); exact ⟨h1, h2, by rw [hsize, h3, hsz]⟩, fun hli => ?_⟩
      rw [hb] at hb0
      cases hb0
      obtain ⟨⟨cap, g1, g2, g3, g4⟩, g5⟩ := hlst0 (hlst.1 ▸ hli)
      exact ⟨⟨cap, by rw [hlst.2.2]; exact g1, g2, by rw [hlst.2.2]; exact g3, by rw [hsz, hsize]; exact g4⟩, fun t' h => g5 t' (hlst.2.1 ▸ h)⟩
    · rename_i hne
      rcases hl.blk i Bi hi with hg | hr
      · exact .inl hg
      · refine .inr (hr.ext hE fun b1 s1 z1 hρ1 => ?_)
        have hbne : b1 ≠ b := fun h => hne (hl.inj i id Bi B _ _ hi hB hρ1 hρ h)
        obtain ⟨_, _, _, _, hρ2, ho2, _⟩ := hr
        rw [hρ1] at hρ2
        cases hρ2
        exact ⟨ho2, setRow_other w b b1 c' hbne⟩
  · have conv : ∀ m Bm, updL l [(id, some B')] m = some Bm → ∃ Bm', l m = some Bm' := by
      intro m Bm hm
      simp only [updL] at hm
      split at hm
      · subst_vars; exact ⟨B, hB⟩
      · exact ⟨Bm, hm⟩
    obtain ⟨Bi', hi'⟩ := conv i Bi hi
    obtain ⟨Bj', hj'⟩ := conv j Bj hj
    exact hl.inj i j Bi' Bj' p q hi' hj' hp hq hpq
  · obtain ⟨m, Bm, s', z, hm, hρm⟩ := hk
    simp only [updL] at hm
    split at hm
    · subst_vars; exact .inr ⟨_, B, s', z, hB, hρm⟩
    · exact .inr ⟨m, Bm, s', z, hm, hρm⟩
theorem splice_get {α : Type} (l vs : List α) (o q : Nat) (ho : o + vs.length ≤ l.length) :
    (l.take o ++ vs ++ l.drop (o + vs.length))[q]? = if q < o then l[q]? else if q < o + vs.length then vs[q - o]? else l[q]? := by
  by_cases h1 : q < o
  · rw [if_pos h1, List.append_assoc, List.getElem?_append_left (by simp; omega), List.getElem?_take, if_pos h1]
  · rw [if_neg h1]
    by_cases h2 : q < o + vs.length
    · rw [if_pos h2, List.append_assoc, List.getElem?_append_right (by simp; omega), List.getElem?_append_left (by simp; omega)]
      congr 1
      simp; omega
    · rw [if_neg h2, List.getElem?_append_right (by simp; omega), List.getElem?_drop]
      congr 1
      simp; omega
theorem store_row {X X' : Cr} {w w' : World} {B : Blk} {c : Array Value} {s i off : Nat} {e e' v : V} {x : Value} (l : Look) (hE : Ext X w l X' w') (hsym : B.sym = false)
    (hrow : Row X w B c s) (he : B.es[i]? = some e) (hp : putIn e off v = some e') (hx : X.vr w v x) (hle : s + i * B.sz + off + x.cells.size ≤ c.size) :
    Row X' w' { B with es := B.es.set i e', dirty := true } (c.toList.take (s + i * B.sz + off) ++ x.cells.toList ++ c.toList.drop (s + i * B.sz + off + x.cells.toList.length)).toArray s ∧ off + x.cells.size ≤ B.sz := by
  unfold putIn at hp
  split at hp
  case isFalse => cases hp
  rename_i hone
  obtain ⟨hlen, hcells, _⟩ := vr_cells hx hone
  obtain ⟨hesz, hecells⟩ := hrow i e he
  -- the new element's cells
  have key : off + v.cells.length ≤ B.sz ∧ e'.cells.length = B.sz ∧ ∀ j, e'.cells[j]? = if j < off then e.cells[j]? else if j < off + v.cells.length then v.cells[j - off]? else e.cells[j]? := by
    split at hp
    · rename_i cs
      split at hp
      · rename_i hlc
        cases hp
        simp only [V.cells] at hesz
        refine ⟨by omega, by simp only [splice, V.cells, List.length_append, List.length_take, List.length_drop]; simp only [V.cells] at hlc; omega, fun j => ?_⟩
        have := splice_get cs v.cells off j hlc
        simpa [V.cells, splice] using this
      · cases hp
    · cases hp
    · rename_i h1 h2
      split at hp
      · rename_i hz
        obtain rfl : v = e' := by simpa using hp
        obtain ⟨rfl, h1l⟩ := hz
        have hec : e.cells.length = 1 := by cases e <;> first | rfl | (exact absurd rfl (h1 _))
        refine ⟨by omega, by omega, fun j => ?_⟩
        rw [if_neg (by omega)]
        by_cases hj : j < 0 + v.cells.length
        · rw [if_pos hj]; simp
        · rw [if_neg hj, List.getElem?_eq_none (by omega), List.getElem?_eq_none (by omega)]
      · cases hp
  obtain ⟨hoff, hlen', hget⟩ := key
  have hxl : x.cells.toList.length = v.cells.length := by simpa using hlen.symm
  refine ⟨fun k f hk => ?_, by omega⟩
  have hpos : ∀ q, (c.toList.take (s + i * B.sz + off) ++ x.cells.toList ++ c.toList.drop (s + i * B.sz + off + x.cells.toList.length)).toArray[q]? =
      if q < s + i * B.sz + off then c[q]? else if q < s + i * B.sz + off + v.cells.length then x.cells[q - (s + i * B.sz + off)]? else c[q]? := by
    intro q
    have := splice_get c.toList x.cells.toList (s + i * B.sz + off) q (by simpa using hle)
    rw [List.getElem?_toArray, this, hxl]
    simp
  simp only [List.getElem?_set] at hk
  by_cases hki : i = k
  · subst hki
    have hlt : i < B.es.length := (List.getElem?_eq_some_iff.1 he).1
    simp [hlt] at hk
    subst hk
    refine ⟨hlen', fun j u hj => ?_⟩
    rw [hget j] at hj
    dsimp only at hpos ⊢
    rw [hpos]
    by_cases h1 : j < off
    · rw [if_pos h1] at hj
      obtain ⟨y, hy, hv, hs⟩ := hecells j u hj
      exact ⟨y, by rw [if_pos (by omega)]; exact hy, hv.ext hE, fun h => (hs h).ext hE⟩
    · rw [if_neg h1] at hj
      by_cases h2 : j < off + v.cells.length
      · rw [if_pos h2] at hj
        obtain ⟨y, hy, hv⟩ := hcells (j - off) u hj
        refine ⟨y, ?_, hv.ext hE, fun h => by simp [hsym] at h⟩
        rw [if_neg (by omega), if_pos (by omega)]
        rw [← hy]; congr 1; omega
      · rw [if_neg h2] at hj
        obtain ⟨y, hy, hv, hs⟩ := hecells j u hj
        refine ⟨y, ?_, hv.ext hE, fun h => (hs h).ext hE⟩
        rw [if_neg (by omega), if_neg (by omega)]
        exact hy
  · rw [if_neg hki] at hk
    obtain ⟨h1, h2⟩ := hrow k f hk
    refine ⟨h1, fun j u hj => ?_⟩
    obtain ⟨y, hy, hv, hs⟩ := h2 j u hj
    refine ⟨y, ?_, hv.ext hE, fun h => (hs h).ext hE⟩
    dsimp only at hpos ⊢
    rw [hpos]
    have hjl : j < B.sz := by rw [← h1]; exact (List.getElem?_eq_some_iff.1 hj).1
    have hkz : k < i ∨ i < k := by omega
    rcases hkz with hki' | hki'
    · have : (k + 1) * B.sz ≤ i * B.sz := Nat.mul_le_mul_right _ hki'
      rw [Nat.add_mul] at this
      rw [if_pos (by omega)]
      exact hy
    · have : (i + 1) * B.sz ≤ k * B.sz := Nat.mul_le_mul_right _ hki'
      rw [Nat.add_mul] at this
      rw [if_neg (by omega), if_neg (by omega)]
      exact hy
theorem store_run {P : Program} {X : Cr} {w : World} {l : Look} (hl : RelL X w l) {t : TypeId} {p v : V} {x y : Value} {ps : List Ev} {ob : Prop} {r : Out}
    (h : opStore P l t p v ps ob = some r) (hx : X.vr w p x) (hy : X.vr w v y) :
    r.new = [] ∧ r.ob = ob ∧ r.v = .tup [] ∧ ∃ w', (Instr.storeAt t x y).run P w = .ok () w' ∧ Step X w l X w' (updL l r.upd) := by
  unfold opStore at h
  split at h
  · rename_i id i off
    split at h
    · rename_i hc
      obtain ⟨hsz, hpos, hinfo⟩ := hc
      split at h
      · rename_i B hB
        split at h
        · cases h
        · rename_i hsym
          split at h
          · rename_i e he
            split at h
            · rename_i e' he'
              cases h
              refine ⟨rfl, rfl, rfl, ?_⟩
              obtain ⟨b, s, sz, hρ, rfl⟩ := vr_mptr hx
              obtain ⟨b', s', c, t', hρ', ho, hb, hrow, hty⟩ := hl.real hB hρ
              rw [hρ] at hρ'
              cases hρ'
              have hone : v.cells.all V.one = true := by
                unfold putIn at he'
                split at he'
                · assumption
                · cases he'
              obtain ⟨hlen, _, hones⟩ := vr_cells hy hone
              have hlast : s + i * B.sz + off + y.cells.size ≤ c.size := by
                obtain ⟨h1, h2⟩ := hrow i e he
                have hoff : off + v.cells.length ≤ e.cells.length := by
                  unfold putIn at he'
                  rw [if_pos hone] at he'
                  split at he'
                  · split at he'
                    · simpa [V.cells] using ‹_›
                    · cases he'
                  · cases he'
                  · rename_i h1 _
                    split at he'
                    · rename_i hz
                      have hec : e.cells.length = 1 := by cases e <;> first | rfl | (exact absurd rfl (h1 _))
                      omega
                    · cases he'
                have hq : e.cells[off + v.cells.length - 1]? = some e.cells[off + v.cells.length - 1] := List.getElem?_eq_getElem (by omega)
                obtain ⟨z, hz, _⟩ := h2 _ _ hq
                have := (Array.getElem?_eq_some_iff.1 hz).1
                omega
              have hst := run_storeCells_at P b (s + i * B.sz + off) t' y.cells.toList 0 c w hb (by simpa using hlast) hones
              have hcz := run_sizeOf' (P := P) hinfo w
              refine ⟨_, ?_, write_step hl hB hρ hb ?_ rfl (fun X' w' hE => (store_row l hE (by simpa using hsym) hrow he he' hy hlast).1) rfl ⟨rfl, rfl, by simp⟩⟩
              · simp only [Instr.storeAt, Instr.sureAddr, Sem.run_bind, Sem.run_pure, Result.andThen_ok, storeVar, hcz, ← hlen, hsz]
                simp only [ne_eq, not_true_eq_false, if_false, hst, Nat.add_zero]
              · simp
                omega
            · cases h
          · cases h
      · cases h
    · cases h
  · cases h
end Go.Im
