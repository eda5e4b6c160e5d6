/- The ideal machine: blocks under other numbers. -/
import Derived.Test.YtalnancndjgmgaaGreatDoorImFz
namespace Go.Im
theorem renL_len (f : Nat → Option Nat) : ∀ vs : List V, (renL f vs).length = vs.length
  | [] => rfl
  | v :: vs => by simp [renL, renL_len f vs]
theorem renL_get (f : Nat → Option Nat) : ∀ (vs : List V) (j : Nat), (renL f vs)[j]? = (vs[j]?).map (ren f)
  | [], j => by simp [renL]
  | v :: vs, 0 => by simp [renL]
  | v :: vs, j + 1 => by simp [renL, renL_get f vs j]
theorem renL_get' {f : Nat → Option Nat} {vs : List V} {j : Nat} {u : V} (h : (renL f vs)[j]? = some u) : ∃ v, vs[j]? = some v ∧ u = ren f v := by
  rw [renL_get] at h
  obtain ⟨v, h1, h2⟩ := Option.map_eq_some_iff.1 h
  exact ⟨v, h1, h2.symm⟩
theorem ren_ir {h : Array Obj} {own : Nat → Prop} (f : Nat → Option Nat) {v : V} {x : Value} (hv : IR h own v x) : IR h own (ren f v) x := by
  induction hv with
  | any x => exact .any x
  | opq x hx => exact .opq x hx
  | bool s b => exact .bool s b
  | int s k n hn => exact .int s k n hn
  | str s b => exact .str s b
  | nilp => exact .nilp
  | nils => exact .nils
  | nilf => exact .nilf
  | nili => exact .nili
  | isl0 s a cap => exact .isl0 s a cap
  | isl s xs b o cap sz c e f xv hcap hown hb hsz hc hr _ => exact .isl s xs b o cap sz c e f xv hcap hown hb hsz hc hr
  | iptr e off b o c t f xv hown hb hc hr _ => exact .iptr e off b o c t f xv hown hb hc hr
  | agg cs xs hl hr ih => simp only [ren]; exact .agg _ xs (by rw [renL_len]; exact hl) fun j u x hj hx => by obtain ⟨v, hv, rfl⟩ := renL_get' hj; exact ih j v x hv hx
  | tup cs xs hl hr ih => simp only [ren]; exact .tup _ xs (by rw [renL_len]; exact hl) fun j u x hj hx => by obtain ⟨v, hv, rfl⟩ := renL_get' hj; exact ih j v x hv hx
  | fn g az cs xs ys hl hr hl' hr' ih ih' =>
    simp only [ren]
    exact .fn g _ _ xs ys (by rw [renL_len]; exact hl) (fun j u x hj hx => by obtain ⟨v, hv, rfl⟩ := renL_get' hj; exact ih j v x hv hx) (by rw [renL_len]; exact hl')
      (fun j u x hj hx => by obtain ⟨v, hv, rfl⟩ := renL_get' hj; exact ih' j v x hv hx)
  | ifc t v x hr ih => simp only [ren]; exact .ifc t _ x ih
theorem ren_vr {h : Array Obj} {own : Nat → Prop} {ρ ρ' : Rho} {f : Nat → Option Nat} (hf : ∀ id j p, f id = some j → ρ id = some p → ρ' j = some p) (hfn : ∀ id j x, f id = some j → ρ.n id = some x → ρ'.n j = some x) {v : V} {x : Value} (hv : VR h own ρ v x) : VR h own ρ' (ren f v) x := by
  induction hv with
  | imm v x hi => exact .imm _ _ (ren_ir f hi)
  | mptr id i off b s sz hρ =>
    simp only [ren]
    cases hfi : f id with
    | none => exact .imm _ _ (.any _)
    | some j => exact .mptr j i off b s sz (hf id j _ hfi hρ)
  | msl id i len cap b s sz o c e f' hρ hl ho hb hc =>
    simp only [ren]
    cases hfi : f id with
    | none => exact .imm _ _ (.any _)
    | some j => exact .msl j i len cap b s sz o c e f' (hf id j _ hfi hρ) hl ho hb hc
  | osl id n cap a hn =>
    simp only [ren]
    cases hfi : f id with
    | none => exact .imm _ _ (.any _)
    | some j => exact .osl j n cap a (hfn id j _ hfi hn)
  | odp id n cap a hn =>
    simp only [ren]
    cases hfi : f id with
    | none => exact .imm _ _ (.any _)
    | some j => exact .odp j n cap a (hfn id j _ hfi hn)
  | agg cs xs hl hr ih => simp only [ren]; exact .agg _ xs (by rw [renL_len]; exact hl) fun j u x hj hx => by obtain ⟨v, hv, rfl⟩ := renL_get' hj; exact ih j v x hv hx
  | tup cs xs hl hr ih => simp only [ren]; exact .tup _ xs (by rw [renL_len]; exact hl) fun j u x hj hx => by obtain ⟨v, hv, rfl⟩ := renL_get' hj; exact ih j v x hv hx
  | fn g az cs xs ys hl hr hl' hr' ih ih' =>
    simp only [ren]
    exact .fn g _ _ xs ys (by rw [renL_len]; exact hl) (fun j u x hj hx => by obtain ⟨v, hv, rfl⟩ := renL_get' hj; exact ih j v x hv hx) (by rw [renL_len]; exact hl')
      (fun j u x hj hx => by obtain ⟨v, hv, rfl⟩ := renL_get' hj; exact ih' j v x hv hx)
  | ifc t v x hr ih => simp only [ren]; exact .ifc t _ x ih
theorem ren_cells (f : Nat → Option Nat) (e : V) : (ren f e).cells = renL f e.cells := by
  cases e with
  | agg cs => simp [ren, V.cells]
  | mptr id i off => simp only [ren, V.cells, renL]; cases f id <;> rfl
  | msl id i len => simp only [ren, V.cells, renL]; cases f id <;> rfl
  | osl d id => simp only [ren, V.cells, renL]; cases f id <;> rfl
  | _ => simp [ren, V.cells, renL]
mutual
theorem ren_back {f g : Nat → Option Nat} (hg : ∀ id j, f id = some j → g j = some id) : ∀ v : V, okV f v = true → ren g (ren f v) = v
  | .mptr id i off, h => by
    simp only [okV] at h
    obtain ⟨j, hj⟩ := Option.isSome_iff_exists.1 h
    simp [ren, hj, hg id j hj]
  | .msl id i len, h => by
    simp only [okV] at h
    obtain ⟨j, hj⟩ := Option.isSome_iff_exists.1 h
    simp [ren, hj, hg id j hj]
  | .osl d id, h => by
    simp only [okV] at h
    obtain ⟨j, hj⟩ := Option.isSome_iff_exists.1 h
    simp [ren, hj, hg id j hj]
  | .agg cs, h => by simp only [okV] at h; simp [ren, renL_back hg cs h]
  | .tup cs, h => by simp only [okV] at h; simp [ren, renL_back hg cs h]
  | .fn k a b, h => by simp only [okV, Bool.and_eq_true] at h; simp [ren, renL_back hg a h.1, renL_back hg b h.2]
  | .ifc t v, h => by simp only [okV] at h; simp [ren, ren_back hg v h]
  | .any, _ => rfl
  | .opq, _ => rfl
  | .bool _ _, _ => rfl
  | .int _ _ _, _ => rfl
  | .str _ _, _ => rfl
  | .nilp, _ => rfl
  | .nils, _ => rfl
  | .nilf, _ => rfl
  | .nili, _ => rfl
  | .iptr _ _, _ => rfl
  | .isl _ _, _ => rfl
theorem renL_back {f g : Nat → Option Nat} (hg : ∀ id j, f id = some j → g j = some id) : ∀ vs : List V, okVs f vs = true → renL g (renL f vs) = vs
  | [], _ => rfl
  | v :: vs, h => by simp only [okVs, Bool.and_eq_true] at h; simp [renL, ren_back hg v h.1, renL_back hg vs h.2]
end
theorem updL_append (l : Look) : ∀ (a b : List (Nat × Option Blk)), updL l (a ++ b) = updL (updL l a) b
  | [], b => rfl
  | (id, x) :: a, b => by simp only [List.cons_append, updL]; exact updL_append _ a b
theorem updL_kills (l : Look) : ∀ K : List Nat, updL l (K.map fun id => (id, none)) = lessL l K
  | [] => by funext i; simp [updL, lessL]
  | k :: K => by
    simp only [List.map_cons, updL]
    rw [updL_kills _ K]
    funext i
    simp only [lessL]
    by_cases h : i = k
    · subst h; simp
    · simp [h]
theorem nodupB_spec : ∀ {m : List Nat}, nodupB m = true → m.Nodup
  | [], _ => List.nodup_nil
  | x :: xs, h => by
    simp only [nodupB, Bool.and_eq_true, Bool.not_eq_true'] at h
    exact List.nodup_cons.2 ⟨by simpa using h.1, nodupB_spec h.2⟩
theorem nodup_inj : ∀ {m : List Nat}, m.Nodup → ∀ {i j a : Nat}, m[i]? = some a → m[j]? = some a → i = j
  | [], _, i, j, a, h, _ => by simp at h
  | x :: xs, hn, i, j, a, h, k => by
    have hn' := List.nodup_cons.1 hn
    cases i <;> cases j
    · rfl
    · simp at h k; subst h; exact absurd (List.mem_of_getElem? k) hn'.1
    · simp at h k; subst k; exact absurd (List.mem_of_getElem? h) hn'.1
    · simp at h k; rw [nodup_inj hn'.2 h k]
theorem indexOf_some {m : List Nat} (_hn : m.Nodup) {id j : Nat} (h : indexOf m id = some j) : m[j]? = some id := by
  unfold indexOf at h
  rw [List.idxOf?, List.findIdx?_eq_some_iff_getElem] at h
  obtain ⟨hj, h1, _⟩ := h
  rw [List.getElem?_eq_getElem hj]
  congr 1
  simpa using h1
theorem indexOf_get {m : List Nat} (hn : m.Nodup) {id j : Nat} (h : m[j]? = some id) : indexOf m id = some j := by
  have hmem : id ∈ m := List.mem_of_getElem? h
  cases hi : indexOf m id with
  | none =>
    unfold indexOf at hi
    rw [List.idxOf?, List.findIdx?_eq_none_iff] at hi
    have := hi id hmem
    simp at this
  | some k =>
    have h2 := indexOf_some hn hi
    rw [nodup_inj hn h2 h]
/-- What comes back of the blocks that were handed on. -/
def backB (back : Nat → Option Nat) (d : Option (Option Blk)) (old : Option Blk) : Option Blk := match d with
  | some (some B) => if B.dirty then some (renB back true B) else old
  | some none => none
  | none => old
theorem backUpd_get (back : Nat → Option Nat) : ∀ (ids : List Nat) (Hs : Heap) (l : Look), ids.Nodup → ∀ i, (i ∉ ids → updL l (backUpd [] back ids Hs) i = l i) ∧
    ∀ j : Nat, ids[j]? = some i → updL l (backUpd [] back ids Hs) i = backB back (Hs[j]?) (l i)
  | [], Hs, l, _, i => by simp [backUpd, updL]
  | id :: ids, [], l, hn, i => by
    refine ⟨fun _ => by simp [backUpd, updL], fun j _ => by simp [backUpd, updL, backB]⟩
  | id :: ids, x :: Hs, l, hn, i => by
    have hn' := (List.nodup_cons.1 hn)
    have key : ∀ l', (∀ i, i ≠ id → l' i = l i) → (∀ B, x = some B → l' id = if B.dirty then some (renB back true B) else l id) → (x = none → l' id = none) →
        (i ∉ id :: ids → updL l' (backUpd [] back ids Hs) i = l i) ∧ ∀ j : Nat, (id :: ids)[j]? = some i → updL l' (backUpd [] back ids Hs) i = backB back ((x :: Hs)[j]?) (l i) := by
      intro l' h1 h2 h3
      obtain ⟨g1, g2⟩ := backUpd_get back ids Hs l' hn'.2 i
      refine ⟨fun hi => by rw [g1 (fun h => hi (List.mem_cons_of_mem _ h))]; exact h1 i (fun h => hi (h ▸ List.mem_cons_self)), fun j hj => ?_⟩
      cases j with
      | zero =>
        simp at hj
        subst hj
        rw [g1 hn'.1]
        cases x with
        | none => simpa [backB] using h3 rfl
        | some B => simpa [backB] using h2 B rfl
      | succ j =>
        have hj' : ids[j]? = some i := by simpa using hj
        have hne : i ≠ id := fun h => hn'.1 (h ▸ List.mem_of_getElem? hj')
        rw [g2 j hj', h1 i hne]
        simp
    cases x with
    | none =>
      simp only [backUpd, updL]
      exact key _ (fun i hi => by simp [hi]) (fun B h => by cases h) (fun _ => by simp)
    | some B =>
      simp only [backUpd]
      cases hd : B.dirty with
      | true =>
        simp only [if_true, updL]
        exact key _ (fun i hi => by simp [hi]) (fun B' h => by cases h; simp [hd]) (fun h => by cases h)
      | false =>
        simp only [Bool.false_eq_true, if_false]
        exact key l (fun i hi => rfl) (fun B' h => by cases h; simp [hd]) (fun h => by cases h)
end Go.Im
