/- The ideal machine: append. -/
import Derived.Test.YtalnancndjgmgaaGreatDoorImOpF
namespace Go.Im
theorem kill_step {X : Cr} {w : World} {l : Look} (hl : RelL X w l) (id : Nat) : Step X w l X w (updL l [(id, none)]) := by
  have sub : ∀ i B, updL l [(id, none)] i = some B → l i = some B := by
    intro i B h
    simp only [updL] at h
    split at h
    · cases h
    · exact h
  refine { toExt := (Step.refl hl).toExt, rel := ⟨fun i B h => hl.blk i B (sub i B h), fun i j Bi Bj p q hi hj => hl.inj i j Bi Bj p q (sub i Bi hi) (sub j Bj hj), hl.lt, hl.gl⟩, nl := fun b ⟨i, B, s, z, h, hρ⟩ => .inr ⟨i, B, s, z, sub i B h, hρ⟩ }
/-- The own block of id goes on under another number, from another place on. -/
theorem move_step {X : Cr} {w : World} {l : Look} (hl : RelL X w l) {id nid b o s : Nat} {B B' : Blk} {c c' : Array Value} {t : TypeId} (hn : X.ρ nid = none) (hB : l id = some B) (hρ : X.ρ id = some (b, s, B.sz))
    (hb : w.heap[b]? = some (Obj.cells c t (0, 0))) (hsize : c'.size = c.size)
    (hrow : ∀ X' w', Ext X w l X' w' → Row X' w' B' c' o) (hty : ∀ t', B'.ty = some t' → t = t' ∧ o = 0 ∧ c'.size = B'.sz := by intro t' h; cases h) (hlst : B'.lst = false := by rfl) :
    Step X w l ⟨X.own, ⟨fun i => if i = nid then some (b, o, B'.sz) else X.ρ i, X.ρ.n⟩⟩ (w.setRow b c') (newL (updL l [(id, none)]) nid [some B']) := by
  obtain ⟨b0, s0, c0, t0, hρ0, ho, hb0, hrow0⟩ := hl.real hB hρ
  rw [hρ] at hρ0
  cases hρ0
  have hlive : X.live l b := ⟨id, B, s, B.sz, hB, hρ⟩
  have hidn : id ≠ nid := by rintro rfl; rw [hn] at hρ; cases hρ
  have hE : Ext X w l ⟨X.own, ⟨fun i => if i = nid then some (b, o, B'.sz) else X.ρ i, X.ρ.n⟩⟩ (w.setRow b c') := by
    refine ⟨rfl, rfl, rfl, by simp, fun i p h => ?_, fun _ _ h => h, fun k hk hn => ?_, fun _ _ h => h, fun _ h _ => h, fun k d e f hk => ?_⟩
    · dsimp only
      rw [if_neg (by rintro rfl; rw [hn] at h; cases h)]
      exact h
    · refine setRow_other w b k c' ?_
      rintro rfl
      exact hn.elim (fun h => h ho) (fun h => h hlive)
    · by_cases hkb : k = b
      · subst hkb
        rw [hb] at hk
        cases hk
        exact ⟨c', _, setRow_heap w k c c' t (0, 0) hb, hsize⟩
      · exact ⟨d, f, by rw [setRow_other w b k c' hkb]; exact hk, rfl⟩
  rw [newL_one]
  have old : ∀ i Bi, i ≠ nid → (if i = nid then some B' else updL l [(id, none)] i) = some Bi → l i = some Bi ∧ i ≠ id := by
    intro i Bi hi h
    rw [if_neg hi] at h
    simp only [updL] at h
    split at h
    · cases h
    · exact ⟨h, ‹_›⟩
  have noB : ∀ i Bi p, l i = some Bi → i ≠ id → X.ρ i = some p → p.1 ≠ b := fun i Bi p hi hne hp h => hne (hl.inj i id Bi B p _ hi hB hp hρ h)
  refine { toExt := hE, rel := ⟨fun i Bi hi => ?_, fun i j Bi Bj p q hi hj hp hq hpq => ?_, fun k hk => (by simpa using hl.lt k hk), hl.gl.ext hE⟩, nl := fun k hk => ?_ }
  · by_cases hin : i = nid
    · subst hin
      simp at hi
      subst hi
      exact .inr ⟨b, o, c', t, by simp, ho, setRow_heap w b c c' t (0, 0) hb, hrow _ _ hE, hty, fun h => by rw [hlst] at h; cases h⟩
    · obtain ⟨h1, h2⟩ := old i Bi hin hi
      rcases hl.blk i Bi h1 with hg | hr
      · exact .inl (hg.mono (by simp [hin]) fun _ h => h)
      · refine .inr (hr.ext hE fun b1 s1 z1 hρ1 => ?_)
        have hbne : b1 ≠ b := noB i Bi _ h1 h2 hρ1
        obtain ⟨_, _, _, _, hρ2, ho2, _⟩ := hr
        rw [hρ1] at hρ2
        cases hρ2
        exact ⟨ho2, setRow_other w b b1 c' hbne⟩
  · dsimp only at hp hq
    by_cases h1 : i = nid <;> by_cases h2 : j = nid
    · omega
    · rw [if_pos h1] at hp
      rw [if_neg h2] at hq
      cases hp
      obtain ⟨g1, g2⟩ := old j Bj h2 hj
      exact absurd hpq.symm (noB j Bj q g1 g2 hq)
    · rw [if_pos h2] at hq
      rw [if_neg h1] at hp
      cases hq
      obtain ⟨g1, g2⟩ := old i Bi h1 hi
      exact absurd hpq (noB i Bi p g1 g2 hp)
    · rw [if_neg h1] at hp
      rw [if_neg h2] at hq
      exact hl.inj i j Bi Bj p q (old i Bi h1 hi).1 (old j Bj h2 hj).1 hp hq hpq
  · obtain ⟨m, Bm, s', z, hm, hρm⟩ := hk
    dsimp only at hρm
    by_cases h1 : m = nid
    · rw [if_pos h1] at hρm
      cases hρm
      exact .inr hlive
    · rw [if_neg h1] at hρm
      exact .inr ⟨m, Bm, s', z, (old m Bm h1 hm).1, hρm⟩
/-- Elements as cells of a list. -/
def EL (X : Cr) (w : World) (sz : Nat) (es : List V) (xs : List Value) : Prop :=
  xs.length = es.length * sz ∧ (∀ (k : Nat) (e : V), es[k]? = some e → e.cells.length = sz ∧ ∀ (j : Nat) (v : V), e.cells[j]? = some v → ∃ x, xs[k * sz + j]? = some x ∧ X.vr w v x) ∧ ∀ x ∈ xs, x.oneCell' = true
theorem el_of {X : Cr} {w : World} {P : Program} {elem : TypeId} {es : List V} (h : okElems P elem es = true) {f : Nat → Value}
    (hf : ∀ (k : Nat) (e : V) (j : Nat) (v : V), es[k]? = some e → e.cells[j]? = some v → X.vr w v (f (k * P.cellsOf elem + j))) :
    EL X w (P.cellsOf elem) es ((List.range (es.length * P.cellsOf elem)).map f) := by
  have hall : ∀ (k : Nat) (e : V), es[k]? = some e → e.cells.length = P.cellsOf elem ∧ e.cells.all V.one = true := by
    intro k e he
    have := List.all_eq_true.1 h e (List.mem_of_getElem? he)
    simpa using this
  refine ⟨by simp, fun k e he => ⟨(hall k e he).1, fun j v hj => ⟨_, ?_, hf k e j v he hj⟩⟩, fun x hx => ?_⟩
  · have hkl : k < es.length := (List.getElem?_eq_some_iff.1 he).1
    have hjl : j < P.cellsOf elem := by rw [← (hall k e he).1]; exact (List.getElem?_eq_some_iff.1 hj).1
    have : (k + 1) * P.cellsOf elem ≤ es.length * P.cellsOf elem := Nat.mul_le_mul_right _ hkl
    rw [Nat.add_mul] at this
    rw [List.getElem?_map, List.getElem?_range (by omega), Option.map_some]
  · obtain ⟨q, hq, rfl⟩ := List.mem_map.1 hx
    have hql := List.mem_range.1 hq
    have hz : 0 < P.cellsOf elem := by
      rcases Nat.eq_zero_or_pos (P.cellsOf elem) with h0 | h0
      · rw [h0] at hql; omega
      · exact h0
    have hk : q / P.cellsOf elem < es.length := by rw [Nat.div_lt_iff_lt_mul hz]; exact hql
    have he : es[q / P.cellsOf elem]? = some es[q / P.cellsOf elem] := List.getElem?_eq_getElem hk
    obtain ⟨h1, h2⟩ := hall _ _ he
    have hjl : q % P.cellsOf elem < (es[q / P.cellsOf elem]).cells.length := by rw [h1]; exact Nat.mod_lt _ hz
    have hv := hf _ _ (q % P.cellsOf elem) _ he (List.getElem?_eq_getElem hjl)
    rw [show q / P.cellsOf elem * P.cellsOf elem + q % P.cellsOf elem = q by rw [Nat.mul_comm]; exact Nat.div_add_mod _ _] at hv
    exact vr_one hv (List.all_eq_true.1 h2 _ (List.getElem_mem hjl))
theorem EL.append {X : Cr} {w : World} {sz : Nat} {es fs : List V} {xs ys : List Value} (h : EL X w sz es xs) (k : EL X w sz fs ys) : EL X w sz (es ++ fs) (xs ++ ys) := by
  refine ⟨by rw [List.length_append, h.1, k.1, List.length_append, Nat.add_mul], fun i e he => ?_, fun x hx => ?_⟩
  · by_cases hi : i < es.length
    · rw [List.getElem?_append_left hi] at he
      obtain ⟨h1, h2⟩ := h.2.1 i e he
      refine ⟨h1, fun j v hj => ?_⟩
      obtain ⟨x, hx, hv⟩ := h2 j v hj
      exact ⟨x, by rw [List.getElem?_append_left (List.getElem?_eq_some_iff.1 hx).1]; exact hx, hv⟩
    · rw [List.getElem?_append_right (by omega)] at he
      obtain ⟨h1, h2⟩ := k.2.1 _ e he
      refine ⟨h1, fun j v hj => ?_⟩
      obtain ⟨x, hx, hv⟩ := h2 j v hj
      refine ⟨x, ?_, hv⟩
      have : es.length * sz ≤ i * sz := Nat.mul_le_mul_right _ (by omega)
      rw [List.getElem?_append_right (by rw [h.1]; omega), ← hx, h.1, Nat.sub_mul]
      congr 1
      omega
  · rcases List.mem_append.1 hx with hx | hx
    · exact h.2.2 x hx
    · exact k.2.2 x hx
theorem EL.row {X X' : Cr} {w w' : World} {l : Look} {sz : Nat} {es : List V} {xs : List Value} (h : EL X w sz es xs) (hE : Ext X w l X' w') {c : Array Value} {o : Nat} (hc : ∀ q x, xs[q]? = some x → c[o + q]? = some x) :
    Row X' w' { es, sz, dirty := true } c o := fun k e hk => by
  obtain ⟨h1, h2⟩ := h.2.1 k e hk
  refine ⟨h1, fun j v hj => ?_⟩
  obtain ⟨x, hx, hv⟩ := h2 j v hj
  exact ⟨x, by dsimp only; rw [Nat.add_assoc]; exact hc _ x hx, hv.ext hE, fun h => by cases h⟩
/-- What is appended, as the model reads it. -/
structure SrcR (P : Program) (X : Cr) (w : World) (sz : Nat) (ys : List V) (y : Value) (news : List Value) : Prop where
  len : ∀ w' : World, (Builtin.lenOf y).run P w' = .ok ys.length w'
  cells : ∀ w' : World, w'.heap = w.heap → (Builtin.firstCells sz ys.length y).run P w' = .ok news.toArray w'
  el : EL X w sz ys news
theorem cell_heap {w w' : World} (h : w'.heap = w.heap) (a : Addr) : w'.cell? a = w.cell? a := by simp [World.cell?, h]
theorem firstCells_some {P : Program} {w : World} {sz n : Nat} {a : Addr} {len cap : Nat} {news : List Value} (hl : news.length = n * sz) (hc : ∀ j v, news[j]? = some v → w.cell? (a.add j) = some v) {w' : World} (hw : w'.heap = w.heap) :
    (Builtin.firstCells sz n (.slice (some a) len cap)).run P w' = .ok news.toArray w' := by
  have := run_loadCells_list (P := P) w' a news (fun j v h => by rw [cell_heap hw]; exact hc j v h)
  simp only [Builtin.firstCells, ← hl, this]
theorem row_el {P : Program} {X : Cr} {w : World} {elem : TypeId} (hpos : 0 < P.cellsOf elem) {B : Blk} {c : Array Value} {s i len : Nat} (hrow : Row X w B c s) (hsz : B.sz = P.cellsOf elem) (hc : i + len ≤ B.es.length) (hok : okElems P elem ((B.es.drop i).take len) = true) :
    ((B.es.drop i).take len).length = len ∧ ∃ news, EL X w (P.cellsOf elem) ((B.es.drop i).take len) news ∧ ∀ q x, news[q]? = some x → c[s + i * P.cellsOf elem + q]? = some x := by
    have hlen : ((B.es.drop i).take len).length = len := by simp; omega
    have hget : ∀ (k : Nat) (e : V), ((B.es.drop i).take len)[k]? = some e → B.es[i + k]? = some e := by
      intro k e he
      rw [List.getElem?_take] at he
      split at he
      · simpa [List.getElem?_drop] using he
      · cases he
    have hex : ∀ (k : Nat) (e : V) (j : Nat) (v : V), ((B.es.drop i).take len)[k]? = some e → e.cells[j]? = some v → ∃ x, c[s + i * P.cellsOf elem + (k * P.cellsOf elem + j)]? = some x ∧ X.vr w v x := by
      intro k e j v he hj
      obtain ⟨_, h2⟩ := hrow (i + k) e (hget k e he)
      obtain ⟨x, hx, hv, _⟩ := h2 j v hj
      refine ⟨x, ?_, hv⟩
      rw [← hx, hsz]; congr 1; rw [Nat.add_mul]; omega
    have hel := el_of (X := X) (w := w) hok (f := fun q => (c[s + i * P.cellsOf elem + q]?).getD undef) fun k e j v he hj => by
      obtain ⟨x, hx, hv⟩ := hex k e j v he hj
      simp only [hx, Option.getD_some]
      exact hv
    refine ⟨hlen, _, hel, fun q x hq => ?_⟩
    have hql : q < ((B.es.drop i).take len).length * P.cellsOf elem := by have := (List.getElem?_eq_some_iff.1 hq).1; simpa using this
    have hk : q / P.cellsOf elem < ((B.es.drop i).take len).length := by rw [Nat.div_lt_iff_lt_mul hpos]; exact hql
    have hke := List.getElem?_eq_getElem hk
    have hz : (((B.es.drop i).take len)[q / P.cellsOf elem]).cells.length = P.cellsOf elem := by
      have := List.all_eq_true.1 hok _ (List.getElem_mem hk)
      simp only [Bool.and_eq_true, beq_iff_eq] at this; exact this.1
    have hjl : q % P.cellsOf elem < (((B.es.drop i).take len)[q / P.cellsOf elem]).cells.length := by rw [hz]; exact Nat.mod_lt _ hpos
    obtain ⟨x', hx', _⟩ := hex _ _ _ _ hke (List.getElem?_eq_getElem hjl)
    rw [show q / P.cellsOf elem * P.cellsOf elem + q % P.cellsOf elem = q by rw [Nat.mul_comm]; exact Nat.div_add_mod _ _] at hx'
    rw [List.getElem?_map, List.getElem?_range hql] at hq
    simp only [Option.map_some, Option.some.injEq, hx', Option.getD_some] at hq
    rw [hx', hq]
theorem msl_el {P : Program} {X : Cr} {w : World} {elem : TypeId} (hpos : 0 < P.cellsOf elem) {B : Blk} {c : Array Value} {s i len : Nat} {ys : List V} (hrow : Row X w B c s) (hsz : B.sz = P.cellsOf elem) (hm : mslEs B i len = some ys) (hok : okElems P elem ys = true) :
    ys.length = len ∧ ∃ news, EL X w (P.cellsOf elem) ys news ∧ ∀ q x, news[q]? = some x → c[s + i * P.cellsOf elem + q]? = some x := by
  unfold mslEs at hm
  split at hm
  · rename_i hc
    cases hm
    exact row_el hpos hrow hsz hc.2 hok
  · cases hm
theorem src_r {P : Program} {X : Cr} {w : World} {l : Look} (hl : RelL X w l) {elem : TypeId} (hpos : 0 < P.cellsOf elem) {v : V} {y : Value} {s : Bool} {ys : List V} {js : List Nat} (h : appSrc l (P.cellsOf elem) v = some (s, ys, js)) (hy : X.vr w v y) (hok : okElems P elem ys = true) :
    ∃ news, SrcR P X w (P.cellsOf elem) ys y news := by
  unfold appSrc at h
  split at h
  · cases h
    rw [vr_nils hy]
    exact ⟨[], fun w' => rfl, fun w' _ => rfl, by simp, fun k e he => by simp at he, fun x hx => by simp at hx⟩
  · cases h
    cases vr_isl hy with
    | isl0 _ a cap =>
      refine ⟨[], fun w' => rfl, fun w' _ => ?_, by simp, fun k e he => by simp at he, fun x hx => by simp at hx⟩
      cases a with
      | none => rfl
      | some a => simp [Builtin.firstCells, loadCells, loadCellsFrom]
    | isl _ _ b o cap sz c e f xv hcap hown hb hsz hc hr =>
      have hel : EL X w (P.cellsOf elem) ys ((List.range (ys.length * P.cellsOf elem)).map fun q => xv (q / P.cellsOf elem) (q % P.cellsOf elem)) := by
        refine el_of hok fun k e' j u hk hj => ?_
        have hz : e'.cells.length = P.cellsOf elem := by
          have := List.all_eq_true.1 hok e' (List.mem_of_getElem? hk)
          simp at this; exact this.1
        have hjl : j < P.cellsOf elem := by rw [← hz]; exact (List.getElem?_eq_some_iff.1 hj).1
        rw [show (k * P.cellsOf elem + j) / P.cellsOf elem = k by rw [Nat.mul_comm, Nat.mul_add_div hpos, Nat.div_eq_of_lt hjl]; omega,
          show (k * P.cellsOf elem + j) % P.cellsOf elem = j by rw [Nat.mul_comm, Nat.mul_add_mod, Nat.mod_eq_of_lt hjl]]
        exact .imm _ _ (hr k e' j u hk hj)
      refine ⟨_, fun w' => rfl, fun w' hw => firstCells_some (by simp) (fun q x hq => ?_) hw, hel⟩
      have hql : q < ys.length * P.cellsOf elem := by have := (List.getElem?_eq_some_iff.1 hq).1; simpa using this
      have hk : q / P.cellsOf elem < ys.length := by rw [Nat.div_lt_iff_lt_mul hpos]; exact hql
      have hke : ys[q / P.cellsOf elem]? = some ys[q / P.cellsOf elem] := List.getElem?_eq_getElem hk
      have hz : (ys[q / P.cellsOf elem]).cells.length = P.cellsOf elem := by
        have := List.all_eq_true.1 hok _ (List.getElem_mem hk)
        simp at this; exact this.1
      have hjl : q % P.cellsOf elem < (ys[q / P.cellsOf elem]).cells.length := by rw [hz]; exact Nat.mod_lt _ hpos
      have hcc := hc _ _ (q % P.cellsOf elem) _ hke (List.getElem?_eq_getElem hjl)
      have hsz' : sz = P.cellsOf elem := by rw [← hsz _ _ hke]; exact hz
      subst hsz'
      rw [Nat.add_assoc, Nat.mul_comm, Nat.div_add_mod] at hcc
      rw [List.getElem?_map, List.getElem?_range hql] at hq
      simp only [Option.map_some, Option.some.injEq] at hq
      rw [add_off, cell_of hb, hcc, hq]
  · rename_i id i len
    split at h
    · rename_i B hB
      split at h
      · rename_i hsz
        split at h
        · rename_i xs hm
          cases h
          obtain ⟨b, s0, sz, o, cap, c, e, f, hρ, hle, ho, hb, hcc, rfl⟩ := vr_msl hy
          obtain ⟨b', s', c', t', hρ', hown, hb', hrow, hty⟩ := hl.real hB hρ
          rw [hρ] at hρ'
          cases hρ'
          rw [hb] at hb'
          cases hb'
          obtain ⟨hlen, news, hel, hn⟩ := msl_el hpos hrow hsz hm hok
          subst hlen
          refine ⟨news, fun w' => rfl, fun w' hw => firstCells_some hel.1 (fun q x hq => ?_) hw, hel⟩
          have hnl := (List.getElem?_eq_some_iff.1 hq).1
          have hlp : 0 < ys.length := by
            rcases Nat.eq_zero_or_pos ys.length with h0 | h0
            · rw [hel.1, h0] at hnl; omega
            · exact h0
          have ho' : o = s0 + i * B.sz := ho.resolve_left (by omega)
          rw [add_off, cell_of hb, ho', hsz]
          exact hn q x hq
        · cases h
      · cases h
    · cases h
  · rename_i id
    split at h
    · rename_i B hB
      obtain ⟨hB, hlst⟩ := lstOf_spec hB
      split at h
      · rename_i hsz
        cases h
        have hn := vr_osl hy
        rcases hl.blk id B hB with hg | hr
        · rw [hg.2.2.2.1] at hn
          cases hn
          rw [hg.2.1]
          exact ⟨[], fun w' => rfl, fun w' _ => rfl, by simp, fun k e he => by simp at he, fun x hx => by simp at hx⟩
        · obtain ⟨b, s, c, t', hρ, hown, hb, hrow, hty, hls⟩ := hr
          obtain ⟨⟨cap, g1, g2, g3, g4⟩, _⟩ := hls hlst
          rw [hn] at g1
          cases g1
          obtain ⟨hlen, news, hel, hnn⟩ := row_el (X := X) hpos (i := 0) (len := B.es.length) hrow hsz (by omega) (by simpa using hok)
          simp only [List.drop_zero, List.take_length] at hel hlen
          refine ⟨news, fun w' => rfl, fun w' hw => firstCells_some hel.1 (fun q x hq => ?_) hw, hel⟩
          rw [add_off, cell_of hb]
          have := hnn q x hq
          simpa using this
      · cases h
    · cases h
  · rename_i s' b
    split at h
    · rename_i h1
      cases h
      rw [vr_str hy]
      have hlen : (bytesV s b).length = b.size := by rw [bytesV, List.length_map]; rfl
      refine ⟨b.data.toList.map fun c => .int .u8 c.toNat, ⟨fun w' => by rw [hlen]; rfl, fun w' _ => ?_, by rw [h1, hlen, List.length_map, Nat.mul_one]; rfl, fun k e he => ?_, fun x hx => ?_⟩⟩
      · rw [hlen]
        have : b.extract 0 b.size = b := by
          apply ByteArray.ext
          rw [ByteArray.data_extract]
          exact Array.extract_size
        simp only [Builtin.firstCells, this, Sem.run_pure]
        congr 1
        apply Array.ext'
        rw [Array.toList_map]
      · simp only [bytesV, List.getElem?_map] at he
        obtain ⟨c, hc, rfl⟩ := Option.map_eq_some_iff.1 he
        refine ⟨by rw [h1]; rfl, fun j v hj => ?_⟩
        cases j with
        | succ j => simp [V.cells] at hj
        | zero =>
          simp [V.cells] at hj
          subst hj
          refine ⟨.int .u8 c.toNat, by rw [h1]; simp [hc], .imm _ _ (.int _ _ _ ?_)⟩
          have := c.toNat_lt
          exact inK_spec.2 ⟨show (0 : Int) ≤ _ by omega, show _ ≤ (255 : Int) by omega⟩
      · obtain ⟨c, _, rfl⟩ := List.mem_map.1 hx
        rfl
    · cases h
  · cases h
structure Good (X : Cr) (w : World) (l : Look) (nid : Nat) (r : Out) (X' : Cr) (w' : World) (x : Value) : Prop where
  step : Step X w l X' w' (newL (updL l r.upd) nid r.new)
  val : X'.vr w' r.v x
  dom : ∀ id, X.ρ.no id → ¬ (nid ≤ id ∧ id < nid + r.new.length) → X'.ρ.no id
theorem good_same {X : Cr} {w : World} {l : Look} (hl : RelL X w l) {nid : Nat} {r : Out} {x : Value} (hu : r.upd = []) (hn : r.new = []) (hv : X.vr w r.v x) : Good X w l nid r X w x := by
  refine ⟨?_, hv, fun id h _ => h⟩
  rw [hu, hn, newL_nil]
  exact Step.refl hl
/-- What the base of an append is to the model. -/
def BaseR (P : Program) (X : Cr) (w : World) (l : Look) (elem : TypeId) (xs : List V) (ids : List Nat) (x : Value) : Prop :=
  (ids = [] ∧ xs = [] ∧ x = .slice none 0 0) ∨
  ∃ (id b s o cap : Nat) (B : Blk) (c : Array Value) (t : TypeId) (olds : List Value), ids = [id] ∧ x = .slice (some ⟨b, o, none⟩) xs.length cap ∧ l id = some B ∧ B.sz = P.cellsOf elem ∧ X.ρ id = some (b, s, B.sz) ∧
    w.heap[b]? = some (Obj.cells c t (0, 0)) ∧ xs.length ≤ cap ∧ (cap = 0 ∨ o + cap * P.cellsOf elem ≤ c.size) ∧ EL X w (P.cellsOf elem) xs olds ∧ ∀ q x, olds[q]? = some x → c[o + q]? = some x
theorem base_r {P : Program} {X : Cr} {w : World} {l : Look} (hl : RelL X w l) {elem : TypeId} (hpos : 0 < P.cellsOf elem) {v : V} {x : Value} {xs : List V} {ids : List Nat} (h : appBase l (P.cellsOf elem) v = some (xs, ids)) (hx : X.vr w v x) (hok : okElems P elem xs = true) :
    BaseR P X w l elem xs ids x := by
  unfold appBase at h
  split at h
  · cases h; exact .inl ⟨rfl, rfl, vr_nils hx⟩
  · rename_i id i len
    split at h
    · rename_i B hB
      split at h
      · rename_i hsz
        split at h
        · rename_i xs' hm
          cases h
          obtain ⟨b, s0, sz, o, cap, c, e, f, hρ, hle, ho, hb, hcc, rfl⟩ := vr_msl hx
          obtain ⟨b', s', c', t', hρ', hown, hb', hrow, hty⟩ := hl.real hB hρ
          rw [hρ] at hρ'
          cases hρ'
          rw [hb] at hb'
          cases hb'
          obtain ⟨hlen, olds, hel, hn⟩ := msl_el hpos hrow hsz hm hok
          subst hlen
          refine .inr ⟨id, b, s0, o, cap, B, c, e, olds, rfl, rfl, hB, hsz, hρ, hb, hle, by rw [← hsz]; exact hcc, hel, fun q y hq => ?_⟩
          have hnl := (List.getElem?_eq_some_iff.1 hq).1
          have hlp : 0 < xs.length := by
            rcases Nat.eq_zero_or_pos xs.length with h0 | h0
            · rw [hel.1, h0] at hnl; omega
            · exact h0
          have ho' : o = s0 + i * B.sz := ho.resolve_left (by omega)
          rw [ho', hsz]
          exact hn q y hq
        · cases h
      · cases h
    · cases h
  · cases h
theorem appended_room {P : Program} {w : World} {ts : Array TypeId} {t t1 e ty : TypeId} {d1 : TypeDesc} (h0 : ts[0]? = some t) (h1 : ts[1]? = some t1) (hu : P.underlying t = some (.slice e)) (hu1 : P.underlying t1 = some d1) (hd1 : d1 = .string ∨ ∃ e1, d1 = .slice e1) {i : TypeInfo} (hi : P.info? e = some i)
    {base : Option Addr} {n m cap : Nat} {y : Value} {news : List Value} (hlen : (Builtin.lenOf y).run P w = .ok m w) (hc : (Builtin.firstCells i.size m y).run P w = .ok news.toArray w) (hle : n + m ≤ cap) :
    (Builtin.append_ ts ty #[.slice base n cap, y]).run P w = ((match base with | some a => storeCells (a.add (n * i.size)) news | none => pure () : Sem Unit).run P w).andThen fun _ w' => .ok (.slice base (n + m) cap) w' := by
  have hsz : (sizeOf e).run P w = .ok i.size w := by simp [sizeOf, typeInfo, hi]
  rcases hd1 with rfl | ⟨e1, rfl⟩ <;> cases base with
  | none => simp [Builtin.append_, h0, h1, run_underlying hu, run_underlying hu1, hsz, hlen, hle, hc]
  | some a => simp [Builtin.append_, h0, h1, run_underlying hu, run_underlying hu1, hsz, hlen, hle, hc]
theorem appended_grow {P : Program} {w : World} {ts : Array TypeId} {t t1 e ty : TypeId} {d1 : TypeDesc} (h0 : ts[0]? = some t) (h1 : ts[1]? = some t1) (hu : P.underlying t = some (.slice e)) (hu1 : P.underlying t1 = some d1) (hd1 : d1 = .string ∨ ∃ e1, d1 = .slice e1) {i : TypeInfo} (hi : P.info? e = some i)
    {z : Value} (hz : i.zero = some z) {base : Option Addr} {n m cap : Nat} {y : Value} {news olds : List Value} (hlen : (Builtin.lenOf y).run P w = .ok m w) (hc : (Builtin.firstCells i.size m y).run P w.drew = .ok news.toArray w.drew)
    (ho : (Builtin.firstCells i.size n (.slice base n cap)).run P w.drew = .ok olds.toArray w.drew) (hgt : ¬ n + m ≤ cap) (hsmall : n + m ≤ maxApp) (hby : i.bytes ≤ 4096) :
    (Builtin.append_ ts ty #[.slice base n cap, y]).run P w = .ok (.slice (some ⟨w.heap.size, 0, none⟩) (n + m) (grownCap w (n + m) cap e))
      (w.drew.alloc (.cells ((olds ++ news).toArray ++ Builtin.zeroCells z.cells (grownCap w (n + m) cap e - (n + m))) e)) := by
  have hsz : (sizeOf e).run P w = .ok i.size w := by simp [sizeOf, typeInfo, hi]
  unfold maxApp at hsmall
  have h63' : ¬ (9223372036854775807 < ((n : Int) + (m : Int))) := by omega
  have hfit := growslice_fits (need := n + m) (old := cap) (bytes := i.bytes) (by omega) (Nat.le_trans (Nat.mul_le_mul hsmall hby) (by decide))
  have h48' : ¬ (281474976710656 < Builtin.nextslicecap (n + m) cap * i.bytes) := by omega
  rcases hd1 with rfl | ⟨e1, rfl⟩
  · simp [Builtin.append_, h0, h1, run_underlying hu, run_underlying hu1, hsz, hlen, hgt, typeInfo, zeroValue, hi, hz, h63', h48', Question.forced, hc, ho, newRow, grownCap]
    congr 2
    apply Array.ext'
    simp [List.append_assoc]
  · simp [Builtin.append_, h0, h1, run_underlying hu, run_underlying hu1, hsz, hlen, hgt, typeInfo, zeroValue, hi, hz, h63', h48', Question.forced, hc, ho, newRow, grownCap]
    congr 2
    apply Array.ext'
    simp [List.append_assoc]
/-- What else is said of an append's answer. -/
def AppX (X X' : Cr) (w w' : World) (elem : TypeId) (x z : Value) : Prop :=
  X'.ρ.n = X.ρ.n ∧ ∀ a n c, z = .slice (some a) n c → (w.heap.size ≤ a.block → ∃ c' f, w'.heap[a.block]? = some (Obj.cells c' elem f)) ∧ ∀ a' n' c', x = .slice a' n' c' → c' ≤ c
theorem append_run {P : Program} {X : Cr} {w : World} {l : Look} (hl : RelL X w l) {nid : Nat} {ts : Array TypeId} {t t1 elem ty : TypeId} {d1 : TypeDesc} (h0 : ts[0]? = some t) (h1 : ts[1]? = some t1)
    (hu : P.underlying t = some (.slice elem)) (hu1 : P.underlying t1 = some d1) (hd1 : d1 = .string ∨ ∃ e1, d1 = .slice e1) {a b : V} {x y : Value} {xs ys : List V} {ids js : List Nat} {s : Bool} {ps : List Ev} {ob : Prop} {r : Out}
    (ha : appBase l (P.cellsOf elem) a = some (xs, ids)) (hb : appSrc l (P.cellsOf elem) b = some (s, ys, js)) (h : opAppend P nid elem xs ids s ys js ps ob = some r) (hx : X.vr w a x) (hy : X.vr w b y) (hob : r.ob) (hnid' : r.new ≠ [] → X.ρ nid = none) :
    ob ∧ ∃ z w' X', (Builtin.append_ ts ty #[x, y]).run P w = .ok z w' ∧ AppX X X' w w' elem x z ∧ Good X w l nid r X' w' z := by
  have zok : zeroOk P elem = true → ∃ i z, P.info? elem = some i ∧ i.zero = some z ∧ z.cells.size = P.cellsOf elem ∧ 0 < P.cellsOf elem ∧ i.bytes ≤ 4096 ∧ i.size = P.cellsOf elem := by
    intro hz
    unfold zeroOk at hz
    split at hz
    · rename_i zv hzv
      simp only [Bool.and_eq_true, beq_iff_eq, decide_eq_true_eq] at hz
      obtain ⟨⟨⟨z1, z2⟩, z3⟩, z4⟩ := hz
      obtain ⟨i, z, hi, hzz, hov⟩ := zeroV_val hzv
      obtain ⟨hlen, _, _⟩ := vr_cells (ir_vr (ρ := X.ρ) (ofVal_ir (h := w.heap) (own := X.own) hov)) z2
      exact ⟨i, z, hi, hzz, by rw [← hlen]; exact z1, z3, by simpa [Program.bytesOf, hi] using z4, by simp [Program.cellsOf, hi]⟩
    · cases hz
  have main : ∀ (ps : List Ev) (ob : Prop), (match must s (okElems P elem ys && decide (xs.length + ys.length ≤ maxApp)) ps ob with
    | some (ps, ob) =>
      if zeroOk P elem ∧ okElems P elem xs ∧ (ids.all fun i => !js.contains i) then
        some (⟨.msl nid 0 (xs.length + ys.length), ids.map (·, none), [some { es := xs ++ ys, sz := P.cellsOf elem, dirty := true, lty := some elem }], ids ++ js, ps, ob⟩ : Out)
      else none
    | none => none) = some r → (ob → ids = [] → ys ≠ []) → ob ∧ ∃ z w' X', (Builtin.append_ ts ty #[x, y]).run P w = .ok z w' ∧ AppX X X' w w' elem x z ∧ Good X w l nid r X' w' z := by
    intro ps ob h hne
    split at h
    · rename_i ps' ob' hm
      split at h
      · rename_i hc
        obtain ⟨hzo, hokx, _⟩ := hc
        cases h
        have hnid := hnid' (by simp)
        obtain ⟨g0, g1⟩ := must_ob hm hob
        simp only [Bool.and_eq_true, decide_eq_true_eq] at g1
        obtain ⟨hoky, hsmall⟩ := g1
        obtain ⟨i, z, hi, hz, hzs, hpos, hby, his⟩ := zok hzo
        obtain ⟨news, hsrc⟩ := src_r hl hpos hb hy hoky
        refine ⟨g0, ?_⟩
        have hcell : ∀ w' : World, w'.heap = w.heap → (Builtin.firstCells i.size ys.length y).run P w' = .ok news.toArray w' := by rw [his]; exact hsrc.cells
        -- a new block
        have grow : ∀ (base : Option Addr) (cap : Nat) (olds : List Value) (l' : Look) (us : List (Nat × Option Blk)), x = .slice base xs.length cap → ¬ xs.length + ys.length ≤ cap → EL X w (P.cellsOf elem) xs olds →
            (∀ w' : World, w'.heap = w.heap → (Builtin.firstCells i.size xs.length (.slice base xs.length cap)).run P w' = .ok olds.toArray w') →
            Step X w l X w (updL l us) → ids.map (·, none) = us →
            ∃ z w' X', (Builtin.append_ ts ty #[x, y]).run P w = .ok z w' ∧ AppX X X' w w' elem x z ∧ Good X w l nid ⟨.msl nid 0 (xs.length + ys.length), ids.map (·, none), [some { es := xs ++ ys, sz := P.cellsOf elem, dirty := true, lty := some elem }], ids ++ js, ps', ob'⟩ X' w' z := by
          intro base cap olds l' us hxe hgt hel ho hk hus
          subst hxe
          have hrun := appended_grow (ty := ty) h0 h1 hu hu1 hd1 hi hz (hsrc.len w) (hcell w.drew rfl) (ho w.drew rfl) hgt hsmall hby
          have hge := grownCap_ge w (xs.length + ys.length) cap elem
          have hst := alloc_step hk.rel (w' := w.drew.alloc (.cells ((olds ++ news).toArray ++ Builtin.zeroCells z.cells (grownCap w (xs.length + ys.length) cap elem - (xs.length + ys.length))) elem)) hnid
            (B := { es := xs ++ ys, sz := P.cellsOf elem, dirty := true, lty := some elem }) rfl rfl rfl rfl fun X' w' hE => (hel.append hsrc.el).row hE fun q u hq => by
              have hql := (List.getElem?_eq_some_iff.1 hq).1
              rw [Nat.zero_add, Array.getElem?_append_left (by simpa using hql)]
              simpa using hq
          refine ⟨_, _, _, hrun, ?_, Step.trans hl hk (by rw [hus]; exact hst) |> fun hst => hst, ?_, ?_⟩
          · refine ⟨rfl, fun a n c he => ?_⟩
            cases he
            refine ⟨fun _ => ⟨_, _, push_new rfl⟩, fun a' n' c' he => ?_⟩
            cases he
            omega
          · refine .msl nid 0 _ _ w.heap.size 0 (P.cellsOf elem) 0 _ _ _ (by simp [Cr.add]) hge (.inr (by simp)) (push_new rfl) (.inr ?_)
            have hl2 := hel.1
            have hl3 := hsrc.el.1
            have hmul : (xs.length + ys.length) * P.cellsOf elem ≤ grownCap w (xs.length + ys.length) cap elem * P.cellsOf elem := Nat.mul_le_mul_right _ hge
            rw [Nat.add_mul] at hmul
            simp only [Array.size_append, List.size_toArray, size_zeroCells, hzs, List.length_append, hl2, hl3, Nat.zero_add, Nat.sub_mul, Nat.add_mul]
            omega
          · intro id hp hr
            simp only [Cr.add]
            refine ⟨?_, hp.2⟩
            dsimp only
            rw [if_neg (by rintro rfl; exact hr (by simp))]
            exact hp.1
        rcases base_r hl hpos ha hx hokx with ⟨rfl, rfl, rfl⟩ | ⟨id, b, s0, o, cap, B, c, t', olds, rfl, rfl, hB, hBs, hρ, hbk, hle, hcc, hel, hn⟩
        · have hy0 : ys.length ≠ 0 := fun h => hne g0 rfl (List.eq_nil_of_length_eq_zero h)
          exact grow none 0 [] l [] rfl (by simp only [List.length_nil]; omega) ⟨by simp, fun k e he => by simp at he, fun x hx => by simp at hx⟩ (fun w' _ => rfl) (Step.refl hl) rfl
        · have hreads : ∀ w' : World, w'.heap = w.heap → (Builtin.firstCells i.size xs.length (.slice (some ⟨b, o, none⟩) xs.length cap)).run P w' = .ok olds.toArray w' := by
            intro w' hw
            rw [his]
            exact firstCells_some hel.1 (fun q u hq => by rw [add_off, cell_of hbk]; exact hn q u hq) hw
          by_cases hroom : xs.length + ys.length ≤ cap
          · have hrun := appended_room (base := some ⟨b, o, none⟩) (ty := ty) h0 h1 hu hu1 hd1 hi (hsrc.len w) (hcell w rfl) hroom
            simp only [add_off] at hrun
            have hmul : (xs.length + ys.length) * P.cellsOf elem ≤ cap * P.cellsOf elem := Nat.mul_le_mul_right _ hroom
            rw [Nat.add_mul] at hmul
            by_cases hc0 : cap = 0
            · -- nothing at all
              subst hc0
              have hx0 : xs = [] := List.eq_nil_of_length_eq_zero (by omega)
              have hy0 : ys = [] := List.eq_nil_of_length_eq_zero (by omega)
              subst hx0 hy0
              have hn0 : news = [] := List.eq_nil_of_length_eq_zero (by have := hsrc.el.1; simpa using this)
              subst hn0
              have hst := move_step hl (id := id) (nid := nid) (o := o) (c' := c) (B' := { es := [], sz := P.cellsOf elem, dirty := true, lty := some elem }) hnid hB hρ hbk rfl (fun X' w' hE k e hk => by simp at hk)
              rw [setRow_self w b c t' (0, 0) hbk] at hst
              refine ⟨_, _, _, by rw [hrun]; rfl, ?_, hst, ?_, ?_⟩
              · refine ⟨rfl, fun a n c he => ?_⟩
                cases he
                refine ⟨fun hge => ?_, fun a' n' c' he => ?_⟩
                · have := heap_lt hbk; dsimp only at hge; omega
                · cases he; omega
              · exact .msl nid 0 _ _ b o (P.cellsOf elem) o c t' (0, 0) (by simp) (by simp) (.inl rfl) hbk (.inl rfl)
              · intro i hp hr
                refine ⟨?_, hp.2⟩
                dsimp only
                rw [if_neg (by rintro rfl; exact hr (by simp))]
                exact hp.1
            · have hcc' := hcc.resolve_left hc0
              have hst0 := run_storeCells_at P b (o + xs.length * i.size) t' news 0 c w hbk (by rw [his, hsrc.el.1]; omega) hsrc.el.2.2
              rw [hst0] at hrun
              simp only [Nat.add_zero] at hrun
              have hpos2 : ∀ q u, (olds ++ news)[q]? = some u → (c.toList.take (o + xs.length * i.size) ++ news ++ c.toList.drop (o + xs.length * i.size + news.length)).toArray[o + q]? = some u := by
                intro q u hq
                have hsg := splice_get c.toList news (o + xs.length * i.size) (o + q) (by rw [his, hsrc.el.1]; simp; omega)
                rw [List.getElem?_toArray, hsg]
                by_cases hq1 : q < olds.length
                · rw [List.getElem?_append_left hq1] at hq
                  rw [if_pos (by rw [his, ← hel.1]; omega)]
                  simpa using hn q u hq
                · rw [List.getElem?_append_right (by omega)] at hq
                  have hql := (List.getElem?_eq_some_iff.1 hq).1
                  rw [if_neg (by rw [his, ← hel.1]; omega), if_pos (by rw [his, ← hel.1]; omega), ← hq]
                  congr 1
                  rw [his, ← hel.1]; omega
              have hst := move_step hl (id := id) (nid := nid) (o := o) (c' := (c.toList.take (o + xs.length * i.size) ++ news ++ c.toList.drop (o + xs.length * i.size + news.length)).toArray)
                (B' := { es := xs ++ ys, sz := P.cellsOf elem, dirty := true, lty := some elem }) hnid hB hρ hbk (by simp [his, hsrc.el.1]; omega) (fun X' w' hE => (hel.append hsrc.el).row hE hpos2)
              refine ⟨_, _, _, hrun, ?_, hst, ?_, ?_⟩
              · refine ⟨rfl, fun a n c he => ?_⟩
                cases he
                refine ⟨fun hge => ?_, fun a' n' c' he => ?_⟩
                · have := heap_lt hbk; dsimp only at hge; omega
                · cases he; omega
              · refine .msl nid 0 _ _ b o (P.cellsOf elem) o _ t' (0, 0) (by simp) hroom (.inr (by simp)) (setRow_heap w b c _ t' (0, 0) hbk) (.inr ?_)
                simp [his, hsrc.el.1]
                omega
              · intro i hp hr
                refine ⟨?_, hp.2⟩
                dsimp only
                rw [if_neg (by rintro rfl; exact hr (by simp))]
                exact hp.1
          · exact grow _ cap olds l [(id, none)] rfl hroom hel hreads (kill_step hl id) rfl
      · cases h
    · cases h
  unfold opAppend at h
  simp only at h
  split at h
  · split at h
    · rename_i ps' ob' hm
      split at h
      · rename_i hz
        cases h
        obtain ⟨g0, g1⟩ := ask_ob hm hob
        have hye : ys = [] := by simpa using g1
        subst hye
        obtain ⟨i, z, hi, hzz, hzs, hpos, hby, his⟩ := zok hz
        obtain ⟨news, hsrc⟩ := src_r hl hpos hb hy (by rfl)
        have hx0 : xs = [] ∧ x = .slice none 0 0 := by
          unfold appBase at ha
          split at ha
          · cases ha; exact ⟨rfl, vr_nils hx⟩
          · split at ha
            · split at ha
              · split at ha
                · cases ha
                · cases ha
              · cases ha
            · cases ha
          · cases ha
        obtain ⟨rfl, rfl⟩ := hx0
        have hcell : (Builtin.firstCells i.size ([] : List V).length y).run P w = .ok news.toArray w := by rw [his]; exact hsrc.cells w rfl
        have hrun := appended_room (base := none) (n := 0) (cap := 0) (ty := ty) h0 h1 hu hu1 hd1 hi (hsrc.len w) hcell (Nat.le_refl 0)
        exact ⟨g0, _, w, X, by rw [hrun]; rfl, ⟨rfl, fun a n c he => by cases he⟩, good_same hl rfl rfl (.imm _ _ .nils)⟩
      · cases h
    · rename_i ps' ob' hm
      obtain ⟨g0, g1⟩ := main ps' ob' h (fun ho _ hye => by
        have := (ask_ob hm ho).2
        rw [hye] at this
        cases this)
      exact ⟨(ask_ob hm g0).1, g1⟩
    · cases h
  · rename_i hn; exact main ps ob h (fun _ h0 => absurd h0 hn)
theorem pure_cell {e : V} (h : e.pure = true) {j : Nat} {v : V} (hj : e.cells[j]? = some v) : v.pure = true := by
  cases e <;> first
    | (simp only [V.cells] at hj
       cases j with
       | zero => simp at hj; subst hj; exact h
       | succ j => simp at hj)
    | (simp only [V.cells] at hj
       exact pureL_get (by simpa [V.pure] using h) hj)
/-- What lies in the call's own block is a list from now on. -/
theorem lst_step {X : Cr} {w : World} {l : Look} (hl : RelL X w l) {id : Nat} {B : Blk} (hB : l id = some B) (hn : X.ρ.n id = none) {b s cap : Nat} {c : Array Value} {e : TypeId} {f : Nat × Nat} (hρ : X.ρ id = some (b, s, B.sz)) (hb : w.heap[b]? = some (Obj.cells c e f))
    (h0 : 0 < cap) (h1 : B.es.length ≤ cap) (h2 : s + cap * B.sz ≤ c.size) (s' : Bool) (hs : s' = true → pureL B.es = true) (lt : Option TypeId) (hlt : ∀ t, lt = some t → e = t) (hty : B.ty = none) :
    Step X w l ⟨X.own, ⟨X.ρ.r, fun i => if i = id then some (.slice (some ⟨b, s, none⟩) B.es.length cap) else X.ρ.n i⟩⟩ w (fun i => if i = id then some { B with sym := s', lst := true, lty := lt } else l i) := by
  have hnn : ∀ i x, X.ρ.n i = some x → (if i = id then some (Value.slice (some ⟨b, s, none⟩) B.es.length cap) else X.ρ.n i) = some x := fun i x h => by
    rw [if_neg (by rintro rfl; rw [hn] at h; cases h)]
    exact h
  have hE : Ext X w l ⟨X.own, ⟨X.ρ.r, fun i => if i = id then some (.slice (some ⟨b, s, none⟩) B.es.length cap) else X.ρ.n i⟩⟩ w :=
    ⟨rfl, rfl, rfl, Nat.le_refl _, fun _ _ h => h, hnn, fun _ _ _ => rfl, fun _ _ h => h, fun _ h _ => h, fun _ c _ f h => ⟨c, f, h, rfl⟩⟩
  have conv : ∀ i Bi, (if i = id then some { B with sym := s', lst := true, lty := lt } else l i) = some Bi → ∃ B0, l i = some B0 := fun i Bi h => by
    split at h
    · subst_vars; exact ⟨B, hB⟩
    · exact ⟨Bi, h⟩
  refine { toExt := hE, rel := ⟨fun i Bi hi => ?_, fun i j Bi Bj p q hi hj hp hq hpq => ?_, hl.lt, hl.gl⟩, nl := fun k hk => ?_ }
  · try dsimp only at hi
    split at hi
    · cases hi
      subst_vars
      obtain ⟨b1, s1, c1, e1, hρ1, ho1, hb1, hrow1, hty1, hls1⟩ := hl.real hB hρ
      rw [hρ] at hρ1
      cases hρ1
      rw [hb] at hb1
      cases hb1
      refine .inr ⟨b, s, c, e, hρ, ho1, hb, fun k e' hk => ?_, (fun t h => by rw [show ({ B with sym := s', lst := true, lty := lt } : Blk).ty = B.ty from rfl, hty] at h; cases h), fun _ => ⟨⟨cap, by simp, h0, h1, h2⟩, hlt⟩⟩
      obtain ⟨g1, g2⟩ := hrow1 k e' hk
      refine ⟨g1, fun j v hj => ?_⟩
      obtain ⟨x, hx, hv, _⟩ := g2 j v hj
      exact ⟨x, hx, hv.ext hE, fun hs' => pure_ir hv (pure_cell (pureL_get (hs hs') hk) hj)⟩
    · rename_i hne
      rcases hl.blk i Bi hi with hg | hr
      · exact .inl (hg.mono rfl (hnn i))
      · exact .inr (hr.ext hE fun b1 s1 z1 hρ1 => by
          obtain ⟨_, _, _, _, hρ2, ho2, _⟩ := hr
          rw [hρ1] at hρ2
          cases hρ2
          exact ⟨ho2, rfl⟩)
  · obtain ⟨Bi', hi'⟩ := conv i Bi hi
    obtain ⟨Bj', hj'⟩ := conv j Bj hj
    exact hl.inj i j Bi' Bj' p q hi' hj' hp hq hpq
  · obtain ⟨m, Bm, s', z, hm, hρm⟩ := hk
    obtain ⟨Bm', hm'⟩ := conv m Bm hm
    exact .inr ⟨m, Bm', s', z, hm', hρm⟩
/-- A list that is nil is made. -/
theorem ghost_step {X : Cr} {w : World} {l : Look} (hl : RelL X w l) {id : Nat} (hn : X.ρ.no id) {B : Blk} (h1 : B.lst = true) (h2 : B.es = []) (h3 : B.ty = none) :
    Step X w l ⟨X.own, ⟨X.ρ.r, fun i => if i = id then some (.slice none 0 0) else X.ρ.n i⟩⟩ w (fun i => if i = id then some B else l i) := by
  have hnn : ∀ i x, X.ρ.n i = some x → (if i = id then some (Value.slice none 0 0) else X.ρ.n i) = some x := fun i x h => by
    rw [if_neg (by rintro rfl; rw [hn.2] at h; cases h)]
    exact h
  have hE : Ext X w l ⟨X.own, ⟨X.ρ.r, fun i => if i = id then some (.slice none 0 0) else X.ρ.n i⟩⟩ w :=
    ⟨rfl, rfl, rfl, Nat.le_refl _, fun _ _ h => h, hnn, fun _ _ _ => rfl, fun _ _ h => h, fun _ h _ => h, fun _ c _ f h => ⟨c, f, h, rfl⟩⟩
  have conv : ∀ i Bi p, (if i = id then some B else l i) = some Bi → X.ρ.r i = some p → l i = some Bi := fun i Bi p h hp => by
    split at h
    · subst_vars; rw [hn.1] at hp; cases hp
    · exact h
  refine { toExt := hE, rel := ⟨fun i Bi hi => ?_, fun i j Bi Bj p q hi hj hp hq hpq => ?_, hl.lt, hl.gl⟩, nl := fun k hk => ?_ }
  · try dsimp only at hi
    split at hi
    · cases hi
      subst_vars
      exact .inl ⟨h1, h2, hn.1, by simp, h3⟩
    · rcases hl.blk i Bi hi with hg | hr
      · exact .inl (hg.mono rfl (hnn i))
      · exact .inr (hr.ext hE fun b1 s1 z1 hρ1 => by
          obtain ⟨_, _, _, _, hρ2, ho2, _⟩ := hr
          rw [hρ1] at hρ2
          cases hρ2
          exact ⟨ho2, rfl⟩)
  · exact hl.inj i j Bi Bj p q (conv i Bi p hi hp) (conv j Bj q hj hq) hp hq hpq
  · obtain ⟨m, Bm, s', z, hm, hρm⟩ := hk
    exact .inr ⟨m, Bm, s', z, conv m Bm _ hm hρm, hρm⟩
/-- A block of which less is said. -/
theorem less_said {X : Cr} {w : World} {l : Look} (hl : RelL X w l) {id : Nat} {B : Blk} (hB : l id = some B) {p : Nat × Nat × Nat} (hρ : X.ρ id = some p) : RelL X w (fun i => if i = id then some { B with sym := false, lst := false } else l i) := by
  have conv : ∀ i Bi, (if i = id then some { B with sym := false, lst := false } else l i) = some Bi → ∃ B0, l i = some B0 := fun i Bi h => by
    split at h
    · subst_vars; exact ⟨B, hB⟩
    · exact ⟨Bi, h⟩
  refine ⟨fun i Bi hi => ?_, fun i j Bi Bj p q hi hj hp hq hpq => ?_, hl.lt, hl.gl⟩
  · split at hi
    · cases hi
      subst_vars
      obtain ⟨b1, s1, c1, e1, hρ1, ho1, hb1, hrow1, hty1, hls1⟩ := hl.real hB hρ
      refine .inr ⟨b1, s1, c1, e1, hρ1, ho1, hb1, fun k e' hk => ?_, hty1, fun h => by cases h⟩
      obtain ⟨g1, g2⟩ := hrow1 k e' hk
      exact ⟨g1, fun j v hj => by obtain ⟨x, hx, hv, _⟩ := g2 j v hj; exact ⟨x, hx, hv, fun h => by cases h⟩⟩
    · exact hl.blk i Bi hi
  · obtain ⟨Bi', hi'⟩ := conv i Bi hi
    obtain ⟨Bj', hj'⟩ := conv j Bj hj
    exact hl.inj i j Bi' Bj' p q hi' hj' hp hq hpq
theorem appSrc_congr {l l' : Look} {sz : Nat} {v : V} {s : Bool} {ys : List V} {js : List Nat} (h : appSrc l sz v = some (s, ys, js)) (hj : ∀ i ∈ js, l' i = l i) : appSrc l' sz v = some (s, ys, js) := by
  unfold appSrc at h ⊢
  split at h
  · exact h
  · exact h
  · rename_i id i len
    split at h
    · rename_i B hB
      split at h
      · rename_i hsz
        split at h
        · rename_i xs hm
          cases h
          simp only [hj id (by simp), hB, hsz, if_true, hm]
        · cases h
      · cases h
    · cases h
  · rename_i id
    split at h
    · rename_i B hB
      split at h
      · rename_i hsz
        cases h
        have : lstOf l' id = some B := by
          unfold lstOf at hB ⊢
          rw [hj id (by simp)]
          exact hB
        simp only [this, hsz, if_true]
      · cases h
    · cases h
  · exact h
  · cases h
theorem said_step {X : Cr} {w : World} {l : Look} (hl : RelL X w l) {id : Nat} {B : Blk} (hB : l id = some B) {p : Nat × Nat × Nat} (hρ : X.ρ id = some p) : Step X w l X w (fun i => if i = id then some { B with sym := false, lst := false } else l i) :=
  { toExt := (Step.refl hl).toExt, rel := less_said hl hB hρ, nl := fun b ⟨i, Bi, s, z, hi, hρ⟩ => .inr (by
      dsimp only at hi
      split at hi
      · subst_vars; exact ⟨_, B, s, z, hB, by assumption⟩
      · exact ⟨i, Bi, s, z, hi, by assumption⟩) }
theorem appO_run {P : Program} {X : Cr} {w : World} {l : Look} (hl : RelL X w l) {nid : Nat} {ts : Array TypeId} {t t1 elem ty : TypeId} {d1 : TypeDesc} (h0 : ts[0]? = some t) (h1 : ts[1]? = some t1)
    (hu : P.underlying t = some (.slice elem)) (hu1 : P.underlying t1 = some d1) (hd1 : d1 = .string ∨ ∃ e1, d1 = .slice e1) {a b : V} {x y : Value} {bs g : Bool} {xs ys : List V} {ids js : List Nat} {lt : Option TypeId} {s : Bool} {ps : List Ev} {ob : Prop} {r : Out}
    (ha : appBaseO l (P.cellsOf elem) g a = some (bs, xs, ids, lt)) (hb : appSrc l (P.cellsOf elem) b = some (s, ys, js)) (h : opAppO P nid elem bs xs ids lt s ys js ps ob = some r) (hx : X.vr w a x) (hy : X.vr w b y) (hob : r.ob) (hnid' : r.new ≠ [] → X.ρ.no nid) :
    ob ∧ ∃ z w' X', (Builtin.append_ ts ty #[x, y]).run P w = .ok z w' ∧ Good X w l nid r X' w' z := by
  unfold opAppO at h
  split at h
  case h_2 => cases h
  rename_i ps1 ob1 hm
  split at h
  case isFalse => cases h
  rename_i hc
  obtain ⟨hzo, hdis⟩ := hc
  cases h
  have hnid := hnid' (by simp)
  obtain ⟨g0, g1⟩ := must_ob hm hob
  simp only [Bool.and_eq_true, decide_eq_true_eq] at g1
  obtain ⟨⟨⟨hokx, hoky⟩, hsmall⟩, hpure⟩ := g1
  have hpure' : (bs || s) = true → pureL (xs ++ ys) = true := by
    intro hbs
    rw [hbs] at hpure
    simp only [Bool.not_true, Bool.false_or, Bool.and_eq_true] at hpure
    have : ∀ (az : List V), pureL az = true → pureL (az ++ ys) = true := by
      intro az
      induction az with
      | nil => intro _; exact hpure.2
      | cons a az ih => intro h; simp only [pureL, Bool.and_eq_true, List.cons_append] at h ⊢; exact ⟨h.1, ih h.2⟩
    exact this xs hpure.1
  refine ⟨g0, ?_⟩
  -- the end: what was made is a list
  have fin : ∀ (z : Value) (w' : World) (X1 : Cr) (l0 : Look) (B0 : Blk), (Builtin.append_ ts ty #[x, y]).run P w = .ok z w' → AppX X X1 w w' elem x z → Step X w l X1 w' (newL l0 nid [some B0]) → X1.vr w' (.msl nid 0 (xs.length + ys.length)) z →
      B0 = { es := xs ++ ys, sz := P.cellsOf elem, dirty := true, lty := some elem } → l0 = updL l (ids.map (·, none)) → (∀ id, X.ρ.no id → ¬ (nid ≤ id ∧ id < nid + 1) → X1.ρ.no id) →
      (∀ a n c, z = .slice (some a) n c → 0 < c ∧ ∀ t, ltyOf ids elem lt = some t → ∀ c' e f, w'.heap[a.block]? = some (Obj.cells c' e f) → e = t) →
      ∃ z w' X', (Builtin.append_ ts ty #[x, y]).run P w = .ok z w' ∧ Good X w l nid ⟨.osl false nid, ids.map (·, none), [some { es := xs ++ ys, sz := P.cellsOf elem, sym := bs || s, lst := true, dirty := true, lty := ltyOf ids elem lt }], ids ++ js, ps1, ob1⟩ X' w' z := by
    intro z w' X1 l0 B0 hrun hax hst hv hB0 hl0 hdom hcap
    subst hB0 hl0
    obtain ⟨b', s', sz', o, cap, c, e, f, hρ, hle, ho, hbk, hcc, rfl⟩ := vr_msl hv
    obtain ⟨hc0, hte⟩ := hcap _ _ _ rfl
    have ho' := ho.resolve_left (by omega)
    have hcc' := hcc.resolve_left (by omega)
    have hBn : (newL (updL l (ids.map (·, none))) nid [some { es := xs ++ ys, sz := P.cellsOf elem, dirty := true, lty := some elem }]) nid = some { es := xs ++ ys, sz := P.cellsOf elem, dirty := true, lty := some elem } := by rw [newL_one]; simp
    have hρ' : X1.ρ nid = some (b', s', P.cellsOf elem) ∧ sz' = P.cellsOf elem := by
      obtain ⟨b2, s2, c2, e2, hρ2, _⟩ := hst.rel.real hBn hρ
      rw [hρ] at hρ2
      cases hρ2
      exact ⟨hρ, rfl⟩
    obtain ⟨hρ', rfl⟩ := hρ'
    have ho2 : o = s' := by omega
    subst ho2
    have hn1 : X1.ρ.n nid = none := by rw [hax.1]; exact hnid.2
    have hst2 := lst_step hst.rel hBn hn1 hρ' hbk hc0 (by simpa using hle) (by simpa using hcc') (bs || s) hpure' (ltyOf ids elem lt) (fun t ht => hte t ht _ _ _ hbk) rfl
    refine ⟨_, w', ⟨X1.own, ⟨X1.ρ.r, fun i => if i = nid then some (.slice (some ⟨b', o, none⟩) (xs ++ ys).length cap) else X1.ρ.n i⟩⟩, hrun, ⟨?_, ?_, ?_⟩⟩
    · refine (Step.trans hl hst hst2) |> fun h => ?_
      have he : (fun i => if i = nid then some ({ es := xs ++ ys, sz := P.cellsOf elem, dirty := true, sym := bs || s, lst := true, lty := ltyOf ids elem lt } : Blk) else newL (updL l (ids.map (·, none))) nid [some { es := xs ++ ys, sz := P.cellsOf elem, dirty := true, lty := some elem }] i) =
          newL (updL l (ids.map (·, none))) nid [some { es := xs ++ ys, sz := P.cellsOf elem, sym := bs || s, lst := true, dirty := true, lty := ltyOf ids elem lt }] := by
        rw [newL_one, newL_one]
        funext i
        by_cases hi : i = nid <;> simp [hi]
      rw [he] at h
      exact h
    · exact .osl nid _ _ _ (by simp)
    · intro id hno hr
      obtain ⟨q1, q2⟩ := hdom id hno (by simpa using hr)
      refine ⟨q1, ?_⟩
      show (if id = nid then _ else _) = none
      rw [if_neg (by rintro rfl; exact hr (by simp))]
      exact q2
  -- nothing was there
  have nilc : ∀ (K : List Nat), xs = [] → x = .slice none 0 0 → ids = K → Step X w l X w (updL l (K.map (·, none))) → (∀ k ∈ K, k ≠ nid) → (K = [] ∨ ∃ id, K = [id]) → (lt = none ∨ K ≠ []) →
      ∃ z w' X', (Builtin.append_ ts ty #[x, y]).run P w = .ok z w' ∧ Good X w l nid ⟨.osl false nid, ids.map (·, none), [some { es := xs ++ ys, sz := P.cellsOf elem, sym := bs || s, lst := true, dirty := true, lty := ltyOf ids elem lt }], ids ++ js, ps1, ob1⟩ X' w' z := by
    intro K hxs hxv hK hkill hne hKs hlt
    subst hxs hxv hK
    by_cases hye : ys = []
    · subst hye
      have hz : ∃ i z, P.info? elem = some i ∧ i.zero = some z ∧ 0 < P.cellsOf elem ∧ i.size = P.cellsOf elem := by
        unfold zeroOk at hzo
        split at hzo
        · rename_i zv hzv
          simp only [Bool.and_eq_true, beq_iff_eq, decide_eq_true_eq] at hzo
          obtain ⟨i, z, hi, hzz, _⟩ := zeroV_val hzv
          exact ⟨i, z, hi, hzz, hzo.1.2, by simp [Program.cellsOf, hi]⟩
        · cases hzo
      obtain ⟨i, z, hi, hzz, hpos, his⟩ := hz
      obtain ⟨news, hsrc⟩ := src_r hl hpos hb hy hoky
      have hcell : (Builtin.firstCells i.size ([] : List V).length y).run P w = .ok news.toArray w := by rw [his]; exact hsrc.cells w rfl
      have hrun := appended_room (base := none) (n := 0) (cap := 0) (ty := ty) h0 h1 hu hu1 hd1 hi (hsrc.len w) hcell (Nat.le_refl 0)
      have hg := ghost_step hkill.rel (id := nid) hnid (B := { es := [], sz := P.cellsOf elem, sym := bs || s, lst := true, dirty := true, lty := ltyOf ids elem lt }) rfl rfl rfl
      refine ⟨.slice none 0 0, w, ⟨X.own, ⟨X.ρ.r, fun i => if i = nid then some (.slice none 0 0) else X.ρ.n i⟩⟩, by rw [hrun]; rfl, ⟨?_, ?_, ?_⟩⟩
      · rw [newL_one]
        exact Step.trans hl hkill hg
      · exact .osl nid _ _ _ (by simp)
      · intro id hno hr
        refine ⟨hno.1, ?_⟩
        show (if id = nid then _ else _) = none
        rw [if_neg (by rintro rfl; exact hr (by simp))]
        exact hno.2
    · have hsmall' : ([] : List V).length + ys.length ≤ maxApp := hsmall
      have hopA : opAppend P nid elem [] [] s ys js [.br false, .br true] True = some ⟨.msl nid 0 (([] : List V).length + ys.length), [], [some { es := [] ++ ys, sz := P.cellsOf elem, dirty := true, lty := some elem }], [] ++ js, (if s then [] else [.br false, .br true]), (if s then (True ∧ ys.isEmpty = false) ∧ (okElems P elem ys && decide (([] : List V).length + ys.length ≤ maxApp)) = true else True)⟩ := by
        have hem : ys.isEmpty = false := by simpa using hye
        unfold opAppend
        cases s with
        | true => simp only [ask, must, hzo, hokx, List.all_nil, and_self, if_true, List.map_nil]
        | false => simp only [ask, must, hem, hoky, hsmall', decide_true, Bool.and_self, hzo, hokx, List.all_nil, and_self, if_true, List.map_nil]; simp
      obtain ⟨_, z, w', X1, hrun, hax, hgood⟩ := append_run (ty := ty) hl (nid := nid) h0 h1 hu hu1 hd1 (a := .nils) (b := b) (ids := []) (xs := []) rfl hb hopA (.imm _ _ .nils) hy (by
        cases s with
        | true => exact ⟨⟨trivial, by simpa using hye⟩, by simp only [hoky, hsmall', decide_true, Bool.and_self]⟩
        | false => trivial) (fun _ => hnid.1)
      have hidn : newL (updL (updL l []) (ids.map (·, none))) nid [some { es := [] ++ ys, sz := P.cellsOf elem, dirty := true, lty := some elem }] = updL (newL (updL l []) nid [some { es := [] ++ ys, sz := P.cellsOf elem, dirty := true, lty := some elem }]) (ids.map (·, none)) := by
        rw [newL_one, newL_one]
        rcases hKs with rfl | ⟨id, rfl⟩
        · rfl
        · funext i
          simp only [List.map_cons, List.map_nil, updL]
          have := hne id (by simp)
          by_cases hi : i = nid
          · subst hi; rw [if_pos rfl, if_neg (by omega), if_pos rfl]
          · simp [hi]
      have hstep : Step X w l X1 w' (newL (updL l (ids.map (·, none))) nid [some { es := [] ++ ys, sz := P.cellsOf elem, dirty := true, lty := some elem }]) := by
        have e : updL l (ids.map (·, none)) = updL (updL l []) (ids.map (·, none)) := rfl
        rw [e, hidn]
        rcases hKs with rfl | ⟨id, rfl⟩
        · exact hgood.step
        · exact Step.trans hl hgood.step (kill_step hgood.step.rel id)
      refine fin z w' X1 _ _ hrun hax hstep hgood.val rfl rfl (fun id hno hr => hgood.dom id hno (by simpa using hr)) fun a n c he => ?_
      obtain ⟨q1, q2⟩ := hax.2 a n c he
      obtain ⟨b', s', sz', o, cap, c0, e0, f, hρ, hle, ho, hbk, hcc, hz⟩ := vr_msl hgood.val
      rw [hz] at he
      cases he
      have hpos : 0 < ys.length := List.length_pos_iff.2 hye
      refine ⟨by simp at hle; omega, fun t ht c' e f' hbb => ?_⟩
      have hge : w.heap.size ≤ b' := by
        rcases hgood.step.nl b' ⟨nid, { es := [] ++ ys, sz := P.cellsOf elem, dirty := true, lty := some elem }, s', sz', by rw [newL_one]; simp, hρ⟩ with h | ⟨i2, B2, s2, z2, h2, h3⟩
        · exact h
        · exfalso
          -- a block of old cannot be the new one's
          have := hgood.step.rho i2 _ h3
          have hne2 : i2 ≠ nid := by rintro rfl; rw [show X.ρ i2 = none from hnid.1] at h3; cases h3
          exact hne2 (hgood.step.rel.inj i2 nid B2 { es := [] ++ ys, sz := P.cellsOf elem, dirty := true, lty := some elem } _ _ (by rw [newL_one]; simp [hne2, updL, h2]) (by rw [newL_one]; simp) this hρ rfl)
      obtain ⟨c2, f2, h2⟩ := q1 hge
      rw [h2] at hbb
      cases hbb
      rcases hKs with rfl | ⟨id, rfl⟩
      · simp [ltyOf] at ht; exact ht
      · simp [ltyOf] at ht; exact ht.2
  unfold appBaseO at ha
  split at ha
  · split at ha
    · cases ha
      exact nilc [] rfl (vr_nils hx) rfl (Step.refl hl) (by simp) (.inl rfl) (.inl rfl)
    · cases ha
  · rename_i id
    split at ha
    · rename_i B hB
      obtain ⟨hB, hlst⟩ := lstOf_spec hB
      split at ha
      · rename_i hsz
        cases ha
        have hn := vr_osl hx
        have hidn : id ≠ nid := by rintro rfl; rw [hnid.2] at hn; cases hn
        rcases hl.blk id B hB with hg | hr
        · rw [hg.2.2.2.1] at hn
          cases hn
          exact nilc [id] hg.2.1 rfl rfl (kill_step hl id) (by simp [hidn]) (.inr ⟨id, rfl⟩) (.inr (by simp))
        · obtain ⟨b1, s1, c1, t', hρ, hown, hbk, hrow, hty, hls⟩ := hr
          obtain ⟨⟨cap, g1, g2, g3, g4⟩, g5⟩ := hls hlst
          rw [hn] at g1
          cases g1
          have hst0 := said_step hl hB hρ
          have hjs : ∀ i ∈ js, (fun i => if i = id then some { B with sym := false, lst := false } else l i) i = l i := by
            intro i hi
            have : i ≠ id := by
              rintro rfl
              simp only [List.all_cons, List.all_nil, Bool.and_true, Bool.not_eq_true', List.contains_eq_mem, decide_eq_false_iff_not] at hdis
              exact hdis hi
            simp [this]
          have hb' := appSrc_congr hb hjs
          have ha' : appBase (fun i => if i = id then some { B with sym := false, lst := false } else l i) (P.cellsOf elem) (.msl id 0 B.es.length) = some (B.es, [id]) := by
            simp [appBase, hsz, mslEs]
          have hsmall' : B.es.length + ys.length ≤ maxApp := hsmall
          have hopA : opAppend P nid elem B.es [id] s ys js [.br true] True = some ⟨.msl nid 0 (B.es.length + ys.length), [id].map (·, none), [some { es := B.es ++ ys, sz := P.cellsOf elem, dirty := true, lty := some elem }], [id] ++ js, (if s then [] else [.br true]), (if s then True ∧ (okElems P elem ys && decide (B.es.length + ys.length ≤ maxApp)) = true else True)⟩ := by
            unfold opAppend
            cases s with
            | true => simp only [ask, must, hzo, hokx, hdis, and_self, if_true]
            | false => simp only [ask, must, hoky, hsmall', decide_true, Bool.and_self, hzo, hokx, hdis, and_self, if_true]; simp
          obtain ⟨_, z, w', X1, hrun, hax, hgood⟩ := append_run (ty := ty) hst0.rel (nid := nid) h0 h1 hu hu1 hd1 (a := .msl id 0 B.es.length) (b := b) (x := .slice (some ⟨b1, s1, none⟩) B.es.length cap) ha' hb' hopA
            (.msl id 0 _ cap b1 s1 B.sz s1 c1 t' (0, 0) hρ g3 (.inr (by simp)) hbk (.inr g4)) hy (by
              cases s with
              | true => exact ⟨trivial, by simp only [hoky, hsmall', decide_true, Bool.and_self]⟩
              | false => trivial) (fun _ => hnid.1)
          have hl0 : updL (fun i => if i = id then some { B with sym := false, lst := false } else l i) ([id].map (·, none)) = updL l ([id].map (·, none)) := by
            funext i
            simp only [List.map_cons, List.map_nil, updL]
            by_cases hi : i = id <;> simp [hi]
          refine fin z w' X1 _ _ hrun hax (Step.trans hl hst0 hgood.step) hgood.val rfl hl0 (fun id hno hr => hgood.dom id hno (by simpa using hr)) fun a n c he => ?_
          obtain ⟨q1, q2⟩ := hax.2 a n c he
          have hcap := q2 _ _ _ rfl
          refine ⟨by omega, fun t ht c' e f hbb => ?_⟩
          have hlt' : B.lty = some elem ∧ elem = t := by simpa [ltyOf] using ht
          obtain ⟨hlt1, rfl⟩ := hlt'
          by_cases hge : w.heap.size ≤ a.block
          · obtain ⟨c2, f2, h2⟩ := q1 hge
            rw [h2] at hbb
            cases hbb
            rfl
          · -- the block of old
            obtain ⟨b', s', sz', o, cap', c0, e0, f0, hρ', hle, ho, hbk', hcc, hz⟩ := vr_msl hgood.val
            rw [hz] at he
            cases he
            rcases hgood.step.nl b' ⟨nid, { es := B.es ++ ys, sz := P.cellsOf elem, dirty := true, lty := some elem }, s', sz', by rw [newL_one]; simp, hρ'⟩ with h | ⟨i2, B2, s2, z2, h2, h3⟩
            · exact absurd h hge
            · have hi2 : i2 = id := by
                refine Classical.byContradiction fun hne => ?_
                have h4 := hgood.step.rho i2 _ h3
                have hne2 : i2 ≠ nid := by rintro rfl; rw [show X.ρ i2 = none from hnid.1] at h3; cases h3
                exact hne2 (hgood.step.rel.inj i2 nid B2 { es := B.es ++ ys, sz := P.cellsOf elem, dirty := true, lty := some elem } _ _ (by rw [newL_one]; simpa [hne2, updL, hne] using h2) (by rw [newL_one]; simp) h4 hρ' rfl)
              subst hi2
              rw [hρ] at h3
              cases h3
              obtain ⟨c3, f3, h5, _⟩ := hgood.step.shape _ _ _ _ hbk
              dsimp only at hbb
              rw [h5] at hbb
              cases hbb
              exact g5 _ hlt1
      · cases ha
    · cases ha
  · cases ha
end Go.Im
