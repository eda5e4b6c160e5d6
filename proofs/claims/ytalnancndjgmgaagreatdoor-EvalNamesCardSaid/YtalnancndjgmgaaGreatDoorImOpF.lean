/- The ideal machine: literals, appends. -/
import Derived.Test.YtalnancndjgmgaaGreatDoorImOpE
import Derived.Great.BuildSlice
namespace Go.Im
/-- Values one by one. -/
def LR (X : Cr) (w : World) (cs : List V) (xs : Array Value) : Prop := cs.length = xs.size ∧ ∀ (j : Nat) (v : V), cs[j]? = some v → ∃ x, xs[j]? = some x ∧ X.vr w v x
theorem LR.agg {X : Cr} {w : World} {cs : List V} {xs : Array Value} (h : LR X w cs xs) : X.vr w (.agg cs) (.agg xs) :=
  .agg cs xs h.1 fun j v x hj hx => by
    obtain ⟨y, hy, hv⟩ := h.2 j v hj
    rw [hx] at hy
    cases hy
    exact hv
theorem zip_fold (vs : Array Value) : ∀ (l : List Value) (k off : Nat) (cs : Array Value), off + k + l.length ≤ cs.size →
    ((l.zipIdx k).foldl (fun (cs : Array Value) (x : Value × Nat) => cs.setIfInBounds (off + x.2) x.1) cs).size = cs.size ∧
    ∀ q, ((l.zipIdx k).foldl (fun (cs : Array Value) (x : Value × Nat) => cs.setIfInBounds (off + x.2) x.1) cs)[q]? = if off + k ≤ q ∧ q < off + k + l.length then l[q - (off + k)]? else cs[q]?
  | [], k, off, cs, _ => ⟨rfl, fun q => by rw [if_neg (by simp <;> omega)]; rfl⟩
  | v :: l, k, off, cs, h => by
    simp only [List.length_cons] at h
    obtain ⟨h1, h2⟩ := zip_fold vs l (k + 1) off (cs.setIfInBounds (off + k) v) (by simp; omega)
    simp only [List.zipIdx_cons, List.foldl_cons]
    refine ⟨by simpa using h1, fun q => ?_⟩
    rw [h2 q]
    by_cases hq : q = off + k
    · subst hq
      rw [if_neg (by omega), if_pos (by simp)]
      simp only [Nat.sub_self, List.getElem?_cons_zero]
      rw [Array.getElem?_setIfInBounds_self_of_lt (by omega)]
    · rw [Array.getElem?_setIfInBounds_ne (by omega)]
      by_cases hr : off + (k + 1) ≤ q ∧ q < off + (k + 1) + l.length
      · rw [if_pos hr, if_pos (by simp; omega)]
        obtain ⟨j, hj⟩ : ∃ j, q = off + (k + 1) + j := ⟨q - (off + (k + 1)), by omega⟩
        subst hj
        rw [show off + (k + 1) + j - (off + (k + 1)) = j by omega, show off + (k + 1) + j - (off + k) = j + 1 by omega]
        simp
      · rw [if_neg hr, if_neg (by simp; omega)]
/-- Parts as the model has them. -/
def PR (X : Cr) (w : World) (vs : List (Nat × V)) (ps : List (Nat × Value)) : Prop := vs.length = ps.length ∧ ∀ (j : Nat) (i : Nat) (v : V), vs[j]? = some (i, v) → ∃ x, ps[j]? = some (i, x) ∧ X.vr w v x
theorem partsV_pr {X : Cr} {w : World} {T : List V} {a : Act} (hs : SR X w T a) : ∀ {ps : List (Nat × Operand)} {vs : List (Nat × V)}, partsV T ps = some vs →
    PR X w vs (ps.map fun x => (x.1, a.eval x.2))
  | [], vs, e => by cases e; exact ⟨rfl, fun j i v h => by simp at h⟩
  | (i, x) :: ps, vs, e => by
    simp only [partsV] at e
    split at e
    · rename_i v vs' h1 h2
      cases e
      obtain ⟨hl, hr⟩ := partsV_pr hs h2
      refine ⟨by simpa using hl, fun j k u h => ?_⟩
      cases j with
      | zero => simp at h; obtain ⟨rfl, rfl⟩ := h; exact ⟨a.eval x, by simp, ev_vr hs h1⟩
      | succ j => simpa using hr j k u (by simpa using h)
    · cases e
theorem PR.tail {X : Cr} {w : World} {v : Nat × V} {p : Nat × Value} {vs : List (Nat × V)} {ps : List (Nat × Value)} (h : PR X w (v :: vs) (p :: ps)) : PR X w vs ps :=
  ⟨by simpa using h.1, fun j i u hj => by simpa using h.2 (j + 1) i u (by simpa using hj)⟩
theorem fill_lr {X : Cr} {w : World} (place : Nat → Option (Nat × Nat)) : ∀ {vs : List (Nat × V)} {ps : List (Nat × Value)} {cs cs' : List V} {xs : Array Value}, PR X w vs ps → LR X w cs xs → fillV place cs vs = some cs' →
    ∃ xs', Instr.fill place xs ps = some xs' ∧ LR X w cs' xs'
  | [], ps, cs, cs', xs, hp, hl, h => by
    cases ps with
    | nil => simp only [fillV] at h; cases h; exact ⟨xs, rfl, hl⟩
    | cons p ps => have := hp.1; simp at this
  | (i, v) :: vs, ps, cs, cs', xs, hp, hl, h => by
    cases ps with
    | nil => have := hp.1; simp at this
    | cons p ps =>
      obtain ⟨x, hx, hv⟩ := hp.2 0 i v (by simp)
      simp at hx
      subst hx
      simp only [fillV] at h
      cases hpl : place i with
      | none => simp [hpl] at h
      | some os =>
        obtain ⟨off, size⟩ := os
        simp only [hpl] at h
        split at h
        · rename_i hc
          obtain ⟨h1, h2, h3⟩ := hc
          obtain ⟨hlen, hcells, _⟩ := vr_cells hv h3
          have hfit : ¬ (x.cells.size ≠ size ∨ off + x.cells.size > xs.size) := by have := hl.1; omega
          obtain ⟨z1, z2⟩ := zip_fold x.cells x.cells.toList 0 off xs (by have := hl.1; simp; omega)
          have harr : x.cells.zipIdx.foldl (fun cs (c, j) => cs.setIfInBounds (off + j) c) xs = (x.cells.toList.zipIdx 0).foldl (fun (cs : Array Value) (x : Value × Nat) => cs.setIfInBounds (off + x.2) x.1) xs := by
            rw [← Array.foldl_toList, Array.toList_zipIdx]
          have hl' : LR X w (splice cs off v.cells) (x.cells.zipIdx.foldl (fun cs (c, j) => cs.setIfInBounds (off + j) c) xs) := by
            rw [harr]
            refine ⟨by rw [z1, ← hl.1]; simp [splice]; omega, fun j u hj => ?_⟩
            have hsg := splice_get cs v.cells off j (by omega)
            simp only [splice] at hj
            rw [hsg] at hj
            rw [z2 j]
            by_cases hj1 : j < off
            · rw [if_pos hj1] at hj
              rw [if_neg (by omega)]
              exact hl.2 j u hj
            · rw [if_neg hj1] at hj
              by_cases hj2 : j < off + v.cells.length
              · rw [if_pos hj2] at hj
                rw [if_pos (by simp; omega)]
                obtain ⟨y, hy, hvy⟩ := hcells (j - off) u hj
                exact ⟨y, by simpa using hy, hvy⟩
              · rw [if_neg hj2] at hj
                rw [if_neg (by simp; omega)]
                exact hl.2 j u hj
          obtain ⟨xs', hf, hlr⟩ := fill_lr place hp.tail hl' h
          refine ⟨xs', ?_, hlr⟩
          simp only [Instr.fill, hpl]
          rw [if_neg (by simpa using hfit)]
          exact hf
        · cases h
theorem zeroV_val {P : Program} {t : TypeId} {z : V} (h : zeroV P t = some z) : ∃ i zv, P.info? t = some i ∧ i.zero = some zv ∧ ofVal zv = some z := by
  unfold zeroV at h
  obtain ⟨zv, h1, h2⟩ := Option.bind_eq_some_iff.1 h
  obtain ⟨i, h3, h4⟩ := Option.bind_eq_some_iff.1 h1
  exact ⟨i, zv, h3, h4, h2⟩
theorem agg_lr {X : Cr} {w : World} {cs : List V} {x : Value} (h : X.vr w (.agg cs) x) : ∃ xs, x = .agg xs ∧ LR X w cs xs := by
  obtain ⟨xs, rfl, hl, hr⟩ := vr_agg h
  refine ⟨xs, rfl, hl, fun j v hj => ?_⟩
  have hlt : j < cs.length := (List.getElem?_eq_some_iff.1 hj).1
  have hx : xs[j]? = some xs[j] := Array.getElem?_eq_getElem (hl ▸ hlt)
  exact ⟨_, hx, hr j v _ hj hx⟩
theorem build_run {P : Program} {X : Cr} {w : World} {T : List V} {a : Act} (hs : SR X w T a) {t : TypeId} {parts : Array (Nat × Operand)} {vs : List (Nat × V)} {v : V}
    (hp : partsV T parts.toList = some vs) (h : opBuild P t vs = some v) : ∃ y, (Instr.build t (parts.map fun (i, x) => (i, a.eval x))).run P w = .ok y w ∧ X.vr w v y := by
  have hpr := partsV_pr hs hp
  have hpa : (parts.map fun (i, x) => (i, a.eval x)).toList = parts.toList.map fun x => (x.1, a.eval x.2) := by simp
  unfold opBuild at h
  split at h
  · rename_i fs hu
    split at h
    · rename_i places zero hpl hz
      obtain ⟨cs', hf, rfl⟩ := Option.map_eq_some_iff.1 h
      obtain ⟨it, zv, hit, hzv, hov⟩ := zeroV_val hz
      obtain ⟨zs, rfl, hlz⟩ := agg_lr (X := X) (w := w) (.imm _ _ (ofVal_ir hov))
      obtain ⟨xs', hfx, hlr⟩ := fill_lr _ hpr hlz hf
      refine ⟨.agg xs', run_build w t _ xs' ?_, hlr.agg⟩
      simp only [Program.built, hit, hu, hzv, hpl, hpa]
      exact hfx
    · cases h
  · rename_i n e hu
    split at h
    · rename_i ie zero hie hz
      obtain ⟨cs', hf, rfl⟩ := Option.map_eq_some_iff.1 h
      obtain ⟨it, zv, hit, hzv, hov⟩ := zeroV_val hz
      obtain ⟨zs, rfl, hlz⟩ := agg_lr (X := X) (w := w) (.imm _ _ (ofVal_ir hov))
      obtain ⟨xs', hfx, hlr⟩ := fill_lr _ hpr hlz hf
      refine ⟨.agg xs', run_build w t _ xs' ?_, hlr.agg⟩
      simp only [Program.built, hit, hu, hzv, hie, hpa]
      exact hfx
    · cases h
  · cases h
/-- Elements, cell by cell. -/
def ER (X : Cr) (w : World) (sz : Nat) (es : List V) (xs : Array Value) : Prop :=
  xs.size = es.length * sz ∧ ∀ (k : Nat) (e : V), es[k]? = some e → e.cells.length = sz ∧ ∀ (j : Nat) (v : V), e.cells[j]? = some v → ∃ x, xs[k * sz + j]? = some x ∧ X.vr w v x
theorem fillS_er {X : Cr} {w : World} {sz : Nat} : ∀ {vs : List (Nat × V)} {ps : List (Nat × Value)} {es es' : List V} {xs : Array Value}, PR X w vs ps → ER X w sz es xs → fillS sz es vs = some es' →
    ∃ xs', Instr.fill (fun i => some (i * sz, sz)) xs ps = some xs' ∧ ER X w sz es' xs'
  | [], ps, es, es', xs, hp, hl, h => by
    cases ps with
    | nil => simp only [fillS] at h; cases h; exact ⟨xs, rfl, hl⟩
    | cons p ps => have := hp.1; simp at this
  | (i, v) :: vs, ps, es, es', xs, hp, hl, h => by
    cases ps with
    | nil => have := hp.1; simp at this
    | cons p ps =>
      obtain ⟨x, hx, hv⟩ := hp.2 0 i v (by simp)
      simp at hx
      subst hx
      simp only [fillS] at h
      split at h
      · rename_i hc
        obtain ⟨h1, h2, h3⟩ := hc
        obtain ⟨hlen, hcells, _⟩ := vr_cells hv h3
        have hmul : (i + 1) * sz ≤ es.length * sz := Nat.mul_le_mul_right _ h1
        rw [Nat.add_mul] at hmul
        have hfit : ¬ (x.cells.size ≠ sz ∨ i * sz + x.cells.size > xs.size) := by have := hl.1; omega
        obtain ⟨z1, z2⟩ := zip_fold x.cells x.cells.toList 0 (i * sz) xs (by have := hl.1; simp; omega)
        have harr : x.cells.zipIdx.foldl (fun cs (c, j) => cs.setIfInBounds (i * sz + j) c) xs = (x.cells.toList.zipIdx 0).foldl (fun (cs : Array Value) (x : Value × Nat) => cs.setIfInBounds (i * sz + x.2) x.1) xs := by
          rw [← Array.foldl_toList, Array.toList_zipIdx]
        have hl' : ER X w sz (es.set i v) (x.cells.zipIdx.foldl (fun cs (c, j) => cs.setIfInBounds (i * sz + j) c) xs) := by
          rw [harr]
          refine ⟨by rw [z1, hl.1]; simp, fun k e hk => ?_⟩
          rw [List.getElem?_set] at hk
          split at hk
          · subst_vars
            cases hk
            refine ⟨rfl, fun j u hj => ?_⟩
            have hjl : j < v.cells.length := (List.getElem?_eq_some_iff.1 hj).1
            rw [z2, if_pos (by simp; omega)]
            obtain ⟨y, hy, hvy⟩ := hcells j u hj
            exact ⟨y, by simpa using hy, hvy⟩
          · rename_i hne
            obtain ⟨g1, g2⟩ := hl.2 k e hk
            refine ⟨g1, fun j u hj => ?_⟩
            have hjl : j < e.cells.length := (List.getElem?_eq_some_iff.1 hj).1
            obtain ⟨y, hy, hvy⟩ := g2 j u hj
            refine ⟨y, ?_, hvy⟩
            rw [z2, if_neg ?_]
            · exact hy
            · rcases Nat.lt_or_gt_of_ne hne with hlt | hlt
              · have : (i + 1) * sz ≤ k * sz := Nat.mul_le_mul_right _ hlt
                rw [Nat.add_mul] at this
                simp; omega
              · have : (k + 1) * sz ≤ i * sz := Nat.mul_le_mul_right _ hlt
                rw [Nat.add_mul] at this
                simp; omega
        obtain ⟨xs', hf, hlr⟩ := fillS_er hp.tail hl' h
        refine ⟨xs', ?_, hlr⟩
        simp only [Instr.fill]
        rw [if_neg (by simpa using hfit)]
        exact hf
      · cases h
theorem ER.row {X X' : Cr} {w w' : World} {l : Look} {sz : Nat} {es : List V} {xs : Array Value} (h : ER X w sz es xs) (hE : Ext X w l X' w') : Row X' w' { es, sz, dirty := true } xs 0 := fun k e hk => by
  obtain ⟨h1, h2⟩ := h.2 k e hk
  refine ⟨h1, fun j v hj => ?_⟩
  obtain ⟨x, hx, hv⟩ := h2 j v hj
  exact ⟨x, by simpa using hx, hv.ext hE, fun h => by cases h⟩
theorem zeros_er {P : Program} (X : Cr) (w : World) {elem : TypeId} (n : Nat) {z : V} {ie : TypeInfo} {zv : Value} (hie : P.info? elem = some ie) (hov : ofVal zv = some z) (hzl : z.cells.length = P.cellsOf elem) (hz1 : z.cells.all V.one = true) :
    ER X w (P.cellsOf elem) (List.replicate n z) ((Array.range (n * ie.size)).map (zv.cells[· % zv.cells.size]!)) := by
  obtain ⟨hlen, hcells, _⟩ := vr_cells (ir_vr (ρ := X.ρ) (ofVal_ir (h := w.heap) (own := X.own) hov)) hz1
  have hsz : P.cellsOf elem = ie.size := by simp [Program.cellsOf, hie]
  refine ⟨by simp [hsz], fun k e hk => ?_⟩
  have hkn : k < n := by have := (List.getElem?_eq_some_iff.1 hk).1; simpa using this
  have he : e = z := by
    rw [List.getElem?_replicate, if_pos hkn] at hk; exact (Option.some.inj hk).symm
  subst he
  refine ⟨hzl, fun j v hj => ?_⟩
  obtain ⟨y, hy, hv⟩ := hcells j v hj
  have hjl : j < P.cellsOf elem := by rw [← hzl]; exact (List.getElem?_eq_some_iff.1 hj).1
  refine ⟨y, ?_, hv⟩
  have hmul : (k + 1) * P.cellsOf elem ≤ n * P.cellsOf elem := Nat.mul_le_mul_right _ hkn
  rw [Nat.add_mul] at hmul
  have hmod : (k * P.cellsOf elem + j) % zv.cells.size = j := by
    rw [← hlen, hzl, Nat.mul_comm, Nat.mul_add_mod, Nat.mod_eq_of_lt hjl]
  have hlt : k * P.cellsOf elem + j < n * ie.size := by rw [← hsz]; omega
  rw [Array.getElem?_map, Array.getElem?_range, if_pos hlt, Option.map_some, hmod]
  have hyl : j < zv.cells.size := by rw [← hlen, hzl]; exact hjl
  rw [Array.getElem?_eq_getElem hyl] at hy
  simp [hyl]
  exact Option.some.inj hy
theorem buildSlice_run {P : Program} {X : Cr} {w : World} {T : List V} {a : Act} (hs : SR X w T a) {t elem : TypeId} {n : Nat} {parts : Array (Nat × Operand)} {vs : List (Nat × V)} {z : V} {es : List V}
    (hp : partsV T parts.toList = some vs) (hu : P.underlying t = some (.slice elem)) (hz : zeroV P elem = some z) (hpos : 0 < P.cellsOf elem) (hsmall : n * P.cellsOf elem ≤ 65536) (hzl : z.cells.length = P.cellsOf elem)
    (hz1 : z.cells.all V.one = true) (h : fillS (P.cellsOf elem) (List.replicate n z) vs = some es) :
    es.length = n ∧ ∃ xs, (Instr.buildSlice t n (parts.map fun (i, x) => (i, a.eval x))).run P w = .ok (.slice (some ⟨w.heap.size, 0, none⟩) n n) (w.alloc (.cells xs elem)) ∧ ER X w (P.cellsOf elem) es xs := by
  have hpr := partsV_pr hs hp
  have hpa : (parts.map fun (i, x) => (i, a.eval x)).toList = parts.toList.map fun x => (x.1, a.eval x.2) := by simp
  have hesl : ∀ {vs : List (Nat × V)} {es es' : List V}, fillS (P.cellsOf elem) es vs = some es' → es'.length = es.length := by
    intro vs
    induction vs with
    | nil => intro es es' h; simp only [fillS] at h; cases h; rfl
    | cons v vs ih =>
      intro es es' h
      obtain ⟨i, v⟩ := v
      simp only [fillS] at h
      split at h
      · rw [ih h]; simp
      · cases h
  have hel := hesl h
  rw [List.length_replicate] at hel
  obtain ⟨ie, zv, hie, hzv, hov⟩ := zeroV_val hz
  have hsz : P.cellsOf elem = ie.size := by simp [Program.cellsOf, hie]
  have h0 := zeros_er (P := P) X w n hie hov hzl hz1
  rw [hsz] at h0 h hsmall ⊢
  obtain ⟨xs, hf, her⟩ := fillS_er hpr h0 h
  refine ⟨hel, xs, ?_, her⟩
  by_cases hn : n = 0
  · subst hn
    simp only [Nat.zero_mul] at hf
    rw [show (Array.range 0).map (fun x => zv.cells[x % zv.cells.size]!) = #[] from by simp, ← hpa] at hf
    simp only [Instr.buildSlice, Sem.run_bind, run_underlying hu, sizeOf, typeInfo, run_program, hie, Result.andThen_ok, Sem.run_pure, Nat.zero_mul]
    simp only [Nat.not_lt_zero, gt_iff_lt, if_false, if_true, Sem.run_pure, Sem.run_bind, Result.andThen_ok]
    rw [show (Array.range 0).map (fun x => (#[] : Array Value)[x % (#[] : Array Value).size]!) = #[] from by simp, hf]
    rfl
  · refine run_buildSlice w t elem n _ xs ie zv hu hie hzv (by omega) ?_ (by rw [hpa]; exact hf)
    have hp' : 0 < ie.size := by rw [← hsz]; exact hpos
    have := Nat.mul_pos (Nat.pos_of_ne_zero hn) hp'
    omega
end Go.Im
