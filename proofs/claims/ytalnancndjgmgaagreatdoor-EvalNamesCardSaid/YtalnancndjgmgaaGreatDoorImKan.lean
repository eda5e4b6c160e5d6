/- The ideal machine: the state between two rounds of a loop, under numbers of its own; what is said deeper down. -/
import Derived.Test.YtalnancndjgmgaaGreatDoorImLoop
namespace Go.Im
set_option linter.unusedVariables false
set_option linter.unusedSimpArgs false
/-- In a list a slice that is nil is a list of nothing. -/
def n1 : V → V
  | .nils => .isl true []
  | v => v
def nilE : V → V
  | .agg cs => .agg (cs.map n1)
  | .nils => .isl true []
  | v => v
theorem nilE_cells (e : V) : (nilE e).cells = e.cells.map n1 := by
  cases e <;> rfl
theorem n1_ir {h : Array Obj} {own : Nat → Prop} {v : V} {x : Value} (hv : IR h own v x) : IR h own (n1 v) x := by
  cases hv <;> first
    | exact .isl0 _ _ _
    | (simp only [n1]; first | assumption | (constructor <;> assumption))
mutual
/-- Every part as a symbol, in lists too. -/
def symD : V → V
  | .bool _ b => .bool true b
  | .int _ k n => .int true k n
  | .str _ b => .str true b
  | .isl s xs => match s with
    | true => .isl true xs
    | false => .isl true ((symDL xs).map nilE)
  | .agg cs => .agg (symDL cs)
  | .tup cs => .tup (symDL cs)
  | .fn f a b => .fn f (symDL a) (symDL b)
  | v => v
def symDL : List V → List V
  | [] => []
  | v :: vs => symD v :: symDL vs
end
theorem symDL_len : ∀ vs : List V, (symDL vs).length = vs.length
  | [] => rfl
  | v :: vs => by simp [symDL, symDL_len vs]
theorem symDL_get : ∀ {vs : List V} {j : Nat} {v : V}, (symDL vs)[j]? = some v → ∃ u, vs[j]? = some u ∧ v = symD u
  | [], j, v, h => by simp [symDL] at h
  | u :: vs, 0, v, h => by simp [symDL] at h; exact ⟨u, rfl, h.symm⟩
  | u :: vs, j + 1, v, h => by
    obtain ⟨u', h1, h2⟩ := symDL_get (vs := vs) (j := j) (by simpa [symDL] using h)
    exact ⟨u', by simpa using h1, h2⟩
theorem symD_cells (v : V) : (symD v).cells = symDL v.cells := by
  cases v with
  | isl s xs => cases s <;> simp [symD, V.cells, symDL]
  | _ => simp [symD, V.cells, symDL]
theorem symD_ir {h : Array Obj} {own : Nat → Prop} {v : V} {x : Value} (hv : IR h own v x) : IR h own (symD v) x := by
  induction hv with
  | any x => exact .any x
  | opq x hx => exact .opq x hx
  | bool s b => exact .bool _ b
  | int s k n hn => exact .int _ k n hn
  | str s b => exact .str _ b
  | nilp => exact .nilp
  | nils => exact .nils
  | nilf => exact .nilf
  | nili => exact .nili
  | isl0 s a cap => cases s <;> exact .isl0 _ a cap
  | isl s xs b o cap sz c e f xv hcap hown hb hsz hc hr ih =>
    cases s with
    | true => exact .isl true xs b o cap sz c e f xv hcap hown hb hsz hc hr
    | false =>
      have get : ∀ (k : Nat) (e : V), ((symDL xs).map nilE)[k]? = some e → ∃ u, xs[k]? = some u ∧ e = nilE (symD u) := fun k e he => by
        rw [List.getElem?_map] at he
        obtain ⟨e', he', rfl⟩ := Option.map_eq_some_iff.1 he
        obtain ⟨u, hu, rfl⟩ := symDL_get he'
        exact ⟨u, hu, rfl⟩
      have cell : ∀ (u : V) (j : Nat) (v : V), (nilE (symD u)).cells[j]? = some v → ∃ v', u.cells[j]? = some v' ∧ v = n1 (symD v') := fun u j v hj => by
        rw [nilE_cells, List.getElem?_map] at hj
        obtain ⟨w, hw, rfl⟩ := Option.map_eq_some_iff.1 hj
        rw [symD_cells] at hw
        obtain ⟨v', hv', rfl⟩ := symDL_get hw
        exact ⟨v', hv', rfl⟩
      have := IR.isl (h := h) (own := own) true ((symDL xs).map nilE) b o cap sz c e f xv (by rw [List.length_map, symDL_len]; exact hcap) hown hb
        (fun k e he => by obtain ⟨u, hu, rfl⟩ := get k e he; rw [nilE_cells, List.length_map, symD_cells, symDL_len]; exact hsz k u hu)
        (fun k e j v he hj => by
          obtain ⟨u, hu, rfl⟩ := get k e he
          obtain ⟨v', hv', rfl⟩ := cell u j v hj
          exact hc k u j v' hu hv')
        (fun k e j v he hj => by
          obtain ⟨u, hu, rfl⟩ := get k e he
          obtain ⟨v', hv', rfl⟩ := cell u j v hj
          exact n1_ir (ih k u j v' hu hv'))
      rw [List.length_map] at this
      rw [symDL_len] at this
      exact this
  | iptr e off b o c t f xv hown hb hc hr ih => exact .iptr e off b o c t f xv hown hb hc hr
  | agg cs xs hl hr ih => exact .agg _ xs (by rw [symDL_len]; exact hl) fun j v x hj hx => by obtain ⟨u, hu, rfl⟩ := symDL_get hj; exact ih j u x hu hx
  | tup cs xs hl hr ih => exact .tup _ xs (by rw [symDL_len]; exact hl) fun j v x hj hx => by obtain ⟨u, hu, rfl⟩ := symDL_get hj; exact ih j u x hu hx
  | fn f as' cs xs ys hl hr hl' hr' ih ih' => exact .fn f _ _ xs ys (by rw [symDL_len]; exact hl) (fun j v x hj hx => by obtain ⟨u, hu, rfl⟩ := symDL_get hj; exact ih j u x hu hx) (by rw [symDL_len]; exact hl') (fun j v x hj hx => by obtain ⟨u, hu, rfl⟩ := symDL_get hj; exact ih' j u x hu hx)
  | ifc t v x hr ih => exact .ifc t v x hr
theorem symD_vr {h : Array Obj} {own : Nat → Prop} {ρ : Rho} {v : V} {x : Value} (hv : VR h own ρ v x) : VR h own ρ (symD v) x := by
  induction hv with
  | imm v x hi => exact .imm _ _ (symD_ir hi)
  | mptr id i off b s sz hρ => exact .mptr id i off b s sz hρ
  | msl id i len cap b s sz o c e f hρ hl ho hb hc => exact .msl id i len cap b s sz o c e f hρ hl ho hb hc
  | osl id n cap a hn => exact .osl id n cap a hn
  | odp id n cap a hn => exact .odp id n cap a hn
  | agg cs xs hl hr ih => exact .agg _ xs (by rw [symDL_len]; exact hl) fun j v x hj hx => by obtain ⟨u, hu, rfl⟩ := symDL_get hj; exact ih j u x hu hx
  | tup cs xs hl hr ih => exact .tup _ xs (by rw [symDL_len]; exact hl) fun j v x hj hx => by obtain ⟨u, hu, rfl⟩ := symDL_get hj; exact ih j u x hu hx
  | fn f as' cs xs ys hl hr hl' hr' ih ih' => exact .fn f _ _ xs ys (by rw [symDL_len]; exact hl) (fun j v x hj hx => by obtain ⟨u, hu, rfl⟩ := symDL_get hj; exact ih j u x hu hx) (by rw [symDL_len]; exact hl') (fun j v x hj hx => by obtain ⟨u, hu, rfl⟩ := symDL_get hj; exact ih' j u x hu hx)
  | ifc t v x hr ih => exact .ifc t v x hr
theorem symD_says (v : V) : Says v (symD v) := fun _ _ _ _ h => symD_vr h
theorem symDL_says : ∀ vs : List V, SaysL vs (symDL vs)
  | [] => .nil
  | v :: vs => .cons (symD_says v) (symDL_says vs)
/-- A contract of symbols, at whatever is known. -/
theorem Sim.at_ {P : Program} {f : FuncId} {args : List V} {H : Heap} {v : V} {H' : Heap} (h : Sim P f (symDL args) H v H') : Sim P f args H v H' := h.args (symDL_says args)
theorem Sim.told {P : Program} {f : FuncId} {args : List V} {H : Heap} {v : V} {H' : Heap} (h : Sim P f args H v H') : Sim P f args H (symD v) H' := h.says (symD_says v)
theorem cond_some {α : Type} {c : Bool} {a b : Option α} {r : α} (h : (bif c then a else b) = some r) : (c = true ∧ a = some r) ∨ (c = false ∧ b = some r) := by
  cases c with
  | true => exact .inl ⟨rfl, h⟩
  | false => exact .inr ⟨rfl, h⟩
theorem guard_some {α : Type} {c : Bool} {a : Option α} {r : α} (h : (bif c then a else none) = some r) : c = true ∧ a = some r := by
  cases c with
  | true => exact ⟨rfl, h⟩
  | false => cases h
theorem guard_none {α : Type} {c : Bool} {a : Option α} {r : α} (h : (bif c then none else a) = some r) : c = false ∧ a = some r := by
  cases c with
  | true => cases h
  | false => exact ⟨rfl, h⟩
theorem bind_some {α β : Type} {o : Option α} {f : α → Option β} {r : β} (h : o.bind f = some r) : ∃ x, o = some x ∧ f x = some r := Option.bind_eq_some_iff.1 h
theorem el_map {α : Type} {f : α → V} {l : List α} {i : Nat} {x : α} {e : V} (h : l[i]? = some x) (he : f x = e) : (l.map f)[i]? = some e := by
  rw [List.getElem?_map, h, ← he]; rfl
/-- A heap's blocks, all of them changed. -/
def dirtyH (H : Heap) : Heap := H.map (·.map fun b => { b with dirty := true })
def cleanOf : Heap → Bool
  | [] => true
  | some b :: H => b.dirty && cleanOf H
  | none :: H => cleanOf H
theorem cleanOf_get : ∀ {H : Heap} {j : Nat} {B : Blk}, cleanOf H = true → H[j]? = some (some B) → B.dirty = true
  | [], j, B, _, hj => by simp at hj
  | some b :: H, 0, B, h, hj => by simp at hj; subst hj; simp only [cleanOf, Bool.and_eq_true] at h; exact h.1
  | some b :: H, j + 1, B, h, hj => by simp only [cleanOf, Bool.and_eq_true] at h; exact cleanOf_get (H := H) (j := j) h.2 (by simpa using hj)
  | none :: H, 0, B, h, hj => by simp at hj
  | none :: H, j + 1, B, h, hj => cleanOf_get (H := H) (j := j) h (by simpa using hj)
theorem clean_of {H0 H : Heap} (h : cleanOf H = true) : Clean H0 H := fun j B _ hB hd => by
  rw [cleanOf_get h hB] at hd; cases hd
theorem lookH_dirty (H : Heap) (id : Nat) : lookH (dirtyH H) id = (lookH H id).map fun b => { b with dirty := true } := by
  simp only [lookH, dirtyH, List.getElem?_map]
  cases H[id]? with
  | none => rfl
  | some o => cases o <;> rfl
theorem rel_same {X : Cr} {w : World} {l l' : Look} (hl : RelL X w l) (hs : ∀ id B', l' id = some B' → ∃ B, l id = some B ∧ B'.es = B.es ∧ B'.sz = B.sz ∧ B'.sym = B.sym ∧ B'.ty = B.ty ∧ B'.lst = B.lst ∧ B'.lty = B.lty) : Step X w l X w l' := by
  refine { toExt := (Step.refl hl).toExt, rel := ⟨fun id B' hB' => ?_, fun i j Bi Bj p q hi hj hp hq hpq => ?_, hl.lt, hl.gl⟩, nl := fun b ⟨i, B', s, z, hi, hρ⟩ => ?_ }
  · obtain ⟨B, hB, h1, h2, h3, h4, h5, h6⟩ := hs id B' hB'
    rcases hl.blk id B hB with ⟨g1, g2, g3, g4, g5⟩ | ⟨b, s, c, e, hρ, ho, hb, hrow, hty, hls⟩
    · exact .inl ⟨h5.trans g1, h1.trans g2, g3, g4, h4.trans g5⟩
    · refine .inr ⟨b, s, c, e, by rw [h2]; exact hρ, ho, hb, fun k f hk => ?_, fun t ht => by rw [h2]; exact hty t (h4 ▸ ht), fun hl' => ?_⟩
      · rw [h1] at hk
        obtain ⟨r1, r2⟩ := hrow k f hk
        refine ⟨by rw [h2]; exact r1, fun j v hj => ?_⟩
        obtain ⟨x, hx, hv, hi⟩ := r2 j v hj
        exact ⟨x, by rw [h2]; exact hx, hv, fun hsy => hi (h3 ▸ hsy)⟩
      · obtain ⟨⟨cap, q1, q2, q3, q4⟩, q5⟩ := hls (h5 ▸ hl')
        exact ⟨⟨cap, by rw [h1]; exact q1, q2, by rw [h1]; exact q3, by rw [h2]; exact q4⟩, fun t ht => q5 t (h6 ▸ ht)⟩
  · obtain ⟨Bi', hi', _⟩ := hs i Bi hi
    obtain ⟨Bj', hj', _⟩ := hs j Bj hj
    exact hl.inj i j Bi' Bj' p q hi' hj' hp hq hpq
  · obtain ⟨B, hB, _⟩ := hs i B' hi
    exact .inr ⟨i, B, s, z, hB, hρ⟩
/-- From a state of which all blocks are called changed. -/
theorem SimC.dirty {P : Program} {c : Code} {T : List V} {H : Heap} {ex : Ex} {T' : List V} {H' : Heap} (h : SimC P c T (dirtyH H) ex T' H') (hc : cleanOf H' = true) : SimC P c T H ex T' H' := by
  obtain ⟨_, h2, h3⟩ := h
  have hlen : (dirtyH H).length = H.length := by simp [dirtyH]
  refine ⟨clean_of hc, by rw [← hlen]; exact h2, fun X w a Q hr hq => ?_⟩
  have hst : Step X w (lookH H) X w (lookH (dirtyH H)) := rel_same hr.rel fun id B' hB' => by
    rw [lookH_dirty] at hB'
    obtain ⟨B, hB, rfl⟩ := Option.map_eq_some_iff.1 hB'
    exact ⟨B, hB, rfl, rfl, rfl, rfl, rfl, rfl⟩
  exact h3 X w a Q ⟨hr.sr, hst.rel, fun id hid => hr.dom id (by rw [← hlen]; exact hid), hr.defers⟩ fun X' w' a' hr' hs' => hq X' w' a' hr' (Step.trans hr.rel hst hs')
/-- A nil slice is a list of the call's own: its block is new. -/
theorem SimC.ghost {P : Program} {c : Code} {T : List V} {H : Heap} {ex : Ex} {T' : List V} {H' : Heap} (t : Nat) {B : Blk} (h1 : B.lst = true) (h2 : B.es = []) (h3 : B.ty = none) (ht : T[t]? = some .nils)
    (h : SimC P c (T.set t (.osl false H.length)) (H ++ [some B]) ex T' H') : SimC P c T H ex T' H' := by
  obtain ⟨c1, l1, w1⟩ := h
  refine ⟨fun j B' hj hB' hd => ?_, by simp at l1; omega, fun X w a Q hr hq => ?_⟩
  · have := c1 j B' (by simp; omega) hB' hd
    rwa [List.getElem?_append_left hj] at this
  · have hno := hr.dom H.length (Nat.le_refl _)
    have hg := ghost_step hr.rel hno (B := B) h1 h2 h3
    have hlk : (fun i => if i = H.length then some B else lookH H i) = lookH (H ++ [some B]) := by
      rw [lookH_new, newL_one]
    rw [hlk] at hg
    refine w1 _ w a Q ⟨⟨by rw [List.length_set]; exact hr.sr.len, fun u v hu => ?_⟩, hg.rel, fun id hid => ?_, hr.defers⟩ fun X' w' a' hr' hs' => hq X' w' a' hr' (Step.trans hr.rel hg hs')
    · rw [List.getElem?_set] at hu
      split at hu
      · rename_i htu
        subst htu
        split at hu
        · cases hu
          obtain ⟨x, hx, hv⟩ := hr.sr.at_ t _ ht
          rw [vr_nils hv] at hx
          exact ⟨_, hx, .osl _ 0 0 none (by simp)⟩
        · cases hu
      · obtain ⟨x, hx, hv⟩ := hr.sr.at_ u v hu
        exact ⟨x, hx, hv.ext hg.toExt⟩
    · simp at hid
      have := hr.dom id (by omega)
      refine ⟨this.1, ?_⟩
      show (if id = H.length then _ else _) = none
      rw [if_neg (by omega)]
      exact this.2
/-- The state as the next round has it: its own numbers. -/
def kanH (l : Look) (m : List Nat) : Heap := m.map fun id => (l id).map (renB (indexOf m) true)
theorem kan_step {X : Cr} {w : World} {H : Heap} (hl : RelL X w (lookH H)) {m : List Nat} (hm : m.Nodup) :
    Step (X.sub m) w (lookH (subH (lookH H) m)) (X.sub m) w (lookH (kanH (lookH H) m)) := by
  refine rel_same (sub_rel hl hm) fun id B' hB' => ?_
  simp only [lookH, kanH, subH, List.getElem?_map] at hB' ⊢
  cases hmi : m[id]? with
  | none => simp [hmi] at hB'
  | some i =>
    simp only [hmi, Option.map_some] at hB' ⊢
    obtain ⟨b, hb, rfl⟩ := Option.map_eq_some_iff.1 hB'
    exact ⟨renB (indexOf m) false b, Option.map_eq_some_iff.2 ⟨b, hb, rfl⟩, rfl, rfl, rfl, rfl, rfl, rfl⟩
/-- Are these numbers not among those that moved? -/
def stayF (m : List Nat) (id : Nat) : Option Nat := match m[id]? with
  | some j => if j = id then some id else none
  | none => some id
def stayB (m : List Nat) : Nat → Heap → Bool
  | _, [] => true
  | i, some b :: H => (stayF m i).isSome && (b.sym || okVs (stayF m) b.es) && stayB m (i + 1) H
  | i, none :: H => stayB m (i + 1) H
theorem stayB_get {m : List Nat} : ∀ {H : Heap} {i j : Nat} {B : Blk}, stayB m i H = true → H[j]? = some (some B) → (stayF m (i + j)).isSome = true ∧ (B.sym || okVs (stayF m) B.es) = true
  | [], i, j, B, _, hj => by simp at hj
  | some b :: H, i, 0, B, h, hj => by simp at hj; subst hj; simp only [stayB, Bool.and_eq_true] at h; exact ⟨h.1.1, h.1.2⟩
  | some b :: H, i, j + 1, B, h, hj => by
    simp only [stayB, Bool.and_eq_true] at h
    have := stayB_get (H := H) (i := i + 1) (j := j) h.2 (by simpa using hj)
    rwa [show i + 1 + j = i + (j + 1) by omega] at this
  | none :: H, i, 0, B, h, hj => by simp at hj
  | none :: H, i, j + 1, B, h, hj => by
    have := stayB_get (H := H) (i := i + 1) (j := j) (by simpa [stayB] using h) (by simpa using hj)
    rwa [show i + 1 + j = i + (j + 1) by omega] at this
theorem stayF_id {m : List Nat} {id j : Nat} (h : stayF m id = some j) : j = id := by
  unfold stayF at h
  split at h
  · split at h
    · cases h; rfl
    · cases h
  · cases h; rfl
/-- What comes after the rounds that follow, in the numbers of this one. -/
theorem kan_back {X X1 X2 : Cr} {w w1 w2 : World} {H H1 H2 : Heap} {m : List Nat} (h0 : RelL X w (lookH H)) (hdom : ∀ id, H.length ≤ id → X.ρ.no id) (hmlen : m.length = H.length)
    (hs1 : Step X w (lookH H) X1 w1 (lookH H1)) (hs2 : Step (X1.sub m) w1 (lookH (subH (lookH H1) m)) X2 w2 (lookH H2)) (hdom2 : ∀ id, H2.length ≤ id → X2.ρ.no id) (hle : H.length ≤ H2.length)
    (hstay : stayB m 0 H2 = true) {T2 : List V} (hT : okVs (stayF m) T2 = true) {a : Act} (hsr : SR X2 w2 T2 a) :
    ∃ X', Step X w (lookH H) X' w2 (lookH H2) ∧ SR X' w2 T2 a ∧ ∀ id, H2.length ≤ id → X'.ρ.no id := by
  let X' : Cr := ⟨X2.own, ⟨fun id => if (stayF m id).isSome then X2.ρ.r id else X1.ρ.r id, fun id => if (stayF m id).isSome then X2.ρ.n id else X1.ρ.n id⟩⟩
  have hin : ∀ id, (stayF m id).isSome = true → X'.ρ.r id = X2.ρ.r id ∧ X'.ρ.n id = X2.ρ.n id := fun id h => ⟨by show (if _ then _ else _) = _; rw [if_pos h], by show (if _ then _ else _) = _; rw [if_pos h]⟩
  have hout : ∀ id, ¬ (stayF m id).isSome = true → X'.ρ.r id = X1.ρ.r id ∧ X'.ρ.n id = X1.ρ.n id := fun id h => ⟨by show (if _ then _ else _) = _; rw [if_neg h], by show (if _ then _ else _) = _; rw [if_neg h]⟩
  have hsame : ∀ id, id < H.length → (stayF m id).isSome = true → m[id]? = some id := by
    intro id hlt h
    unfold stayF at h
    split at h
    · rename_i j hj
      split at h
      · subst_vars; assumption
      · simp at h
    · rename_i hn
      rw [List.getElem?_eq_none_iff] at hn
      omega
  have hlive : ∀ b, (X1.sub m).live (lookH (subH (lookH H1) m)) b → X1.live (lookH H1) b := fun b h => by
    obtain ⟨id, B, s, z, _, hB, hρ⟩ := sub_live h
    exact ⟨id, B, s, z, hB, hρ⟩
  have hvr : ∀ (v : V) (x : Value), okV (stayF m) v = true → X2.vr w2 v x → X'.vr w2 v x := by
    intro v x hok hv
    have := ren_vr (f := stayF m) (ρ' := X'.ρ) (fun id j p hj hp => by
      have := stayF_id hj
      subst this
      rw [show X'.ρ j = X2.ρ j from (hin j (by rw [hj]; rfl)).1]
      exact hp) (fun id j p hj hp => by
      have := stayF_id hj
      subst this
      rw [(hin j (by rw [hj]; rfl)).2]
      exact hp) hv
    rwa [ren_id (fun id j hj => stayF_id hj) v hok] at this
  have hlt : ∀ id, ¬ X.ρ.no id → id < H.length := fun id h => Classical.byContradiction fun h' => h (hdom id (by omega))
  have hE : Ext X w (lookH H) X' w2 := by
    refine ⟨hs2.os.trans hs1.os, hs2.tape.trans hs1.tape, hs2.output.trans hs1.output, Nat.le_trans hs1.size hs2.size, fun id p hp => ?_, fun id p hp => ?_, fun b hb hn => ?_, fun b hb hn => hs2.own b (Nat.lt_of_lt_of_le hb hs1.size) (hs1.own b hb hn), fun b ho hn => ?_, fun b c e f hb => ?_⟩
    · have hid := hlt id fun h => by rw [show X.ρ id = none from h.1] at hp; cases hp
      by_cases hst : (stayF m id).isSome = true
      · rw [show X'.ρ id = X2.ρ id from (hin id hst).1]
        exact hs2.rho id p (by simp [Cr.sub, hsame id hid hst, hs1.rho id p hp])
      · rw [show X'.ρ id = X1.ρ id from (hout id hst).1]
        exact hs1.rho id p hp
    · have hid := hlt id fun h => by rw [h.2] at hp; cases hp
      by_cases hst : (stayF m id).isSome = true
      · rw [(hin id hst).2]
        exact hs2.rhon id p (by simp [Cr.sub, hsame id hid hst, hs1.rhon id p hp])
      · rw [(hout id hst).2]
        exact hs1.rhon id p hp
    · rw [← hs1.keep b hb hn]
      refine hs2.keep b (Nat.lt_of_lt_of_le hb hs1.size) ?_
      rcases hn with hn | hn
      · exact .inl (hs1.own b hb hn)
      · exact .inr fun hl => (hs1.nl b (hlive b hl)).elim (fun hle => absurd hb (Nat.not_lt.2 hle)) hn
    · exact hs2.still b (hs1.still b ho hn) fun hl => (hs1.nl b (hlive b hl)).elim (fun hle => absurd (h0.lt b ho) (Nat.not_lt.2 hle)) hn
    · obtain ⟨c1, f1, q1, s1⟩ := hs1.shape b c e f hb
      obtain ⟨c2, f2, q2, s2⟩ := hs2.shape b c1 e f1 q1
      exact ⟨c2, f2, q2, s2.trans s1⟩
  have hlk : ∀ id B, lookH H2 id = some B → H2[id]? = some (some B) := by
    intro id B hB
    simp only [lookH] at hB
    split at hB
    · rename_i b hb; subst hB; exact hb
    · cases hB
  refine ⟨X', { toExt := hE, rel := ⟨fun id B hB => ?_, fun i j Bi Bj p q hi hj hp hq hpq => ?_, hs2.rel.lt, h0.gl.ext hE⟩, nl := fun b hb => ?_ }, ⟨hsr.len, fun t v ht => ?_⟩, fun id hid => ?_⟩
  · obtain ⟨g1, g2⟩ := stayB_get hstay (hlk id B hB)
    rw [Nat.zero_add] at g1
    obtain ⟨q1, q2⟩ := hin id g1
    rcases hs2.rel.blk id B hB with hg | ⟨b, s, c, e, hρ, ho, hb, hrow, hty, hls⟩
    · exact .inl (hg.mono q1 fun x hx => q2.trans hx)
    · refine .inr ⟨b, s, c, e, (show X'.ρ id = X2.ρ id from q1).trans hρ, ho, hb, fun k f hk => ?_, hty, hls.mono fun x hx => q2.trans hx⟩
      obtain ⟨r1, r2⟩ := hrow k f hk
      refine ⟨r1, fun j u hj => ?_⟩
      obtain ⟨y, hy, hvy, hi⟩ := r2 j u hj
      refine ⟨y, hy, ?_, hi⟩
      cases hsym : B.sym with
      | true => exact .imm _ _ (hi hsym)
      | false =>
        rw [hsym, Bool.false_or] at g2
        exact hvr u y (okV_cells (okVs_get g2 hk) hj) hvy
  · obtain ⟨g1, _⟩ := stayB_get hstay (hlk i Bi hi)
    obtain ⟨g2, _⟩ := stayB_get hstay (hlk j Bj hj)
    rw [Nat.zero_add] at g1 g2
    rw [show X'.ρ i = X2.ρ i from (hin i g1).1] at hp
    rw [show X'.ρ j = X2.ρ j from (hin j g2).1] at hq
    exact hs2.rel.inj i j Bi Bj p q hi hj hp hq hpq
  · obtain ⟨id, B, s, z, hB, hρ⟩ := hb
    obtain ⟨g1, _⟩ := stayB_get hstay (hlk id B hB)
    rw [Nat.zero_add] at g1
    rw [show X'.ρ id = X2.ρ id from (hin id g1).1] at hρ
    rcases hs2.nl b ⟨id, B, s, z, hB, hρ⟩ with h | h
    · exact .inl (Nat.le_trans hs1.size h)
    · exact hs1.nl b (hlive b h)
  · obtain ⟨x, hx, hv⟩ := hsr.at_ t v ht
    exact ⟨x, hx, hvr v x (okVs_get hT ht) hv⟩
  · have hst : (stayF m id).isSome = true := by
      unfold stayF
      rw [List.getElem?_eq_none (by omega)]
      rfl
    obtain ⟨q1, q2⟩ := hin id hst
    have := hdom2 id hid
    exact ⟨q1.trans this.1, q2.trans this.2⟩
/-- One round; then the rest, from the state under its own numbers. -/
theorem SimR.stepK {P : Program} {c : Code} {T : List V} {H : Heap} {T1 : List V} {H1 : Heap} {ex : Ex} {T2 : List V} {H2 : Heap} {m : List Nat} (h : SimC P c T H .normal T1 H1)
    (hm : nodupB m = true) (hmlen : m.length = H.length)
    (k : SimR P c (renL (indexOf m) T1) (kanH (lookH H1) m) ex T2 H2) (hc : cleanOf H2 = true) (hstay : stayB m 0 H2 = true) (hT : okVs (stayF m) T2 = true) : SimR P c T H ex T2 H2 := by
  obtain ⟨c1, l1, w1⟩ := h
  obtain ⟨c2, l2, k, w2⟩ := k
  have hm' := nodupB_spec hm
  have hkl : (kanH (lookH H1) m).length = m.length := by simp [kanH]
  refine ⟨clean_of hc, by rw [← hmlen, ← hkl]; exact l2, k + 1, fun X w a Q hr hq => ?_⟩
  rw [rounds_succ]
  refine w1 X w a _ hr fun X1 w1' a1 hr1 hs1 => ?_
  show Code.rounds P c Q k a1 w1'
  have hks := kan_step hr1.rel hm'
  have hsr1 : SR (X1.sub m) w1' (renL (indexOf m) T1) a1 := ⟨by rw [renL_len]; exact hr1.sr.len, fun t v ht => by
    obtain ⟨u, hu, rfl⟩ := renL_get' ht
    obtain ⟨x, hx, hv⟩ := hr1.sr.at_ t u hu
    exact ⟨x, hx, ren_vr (fun id j p hj hp => by simp [Cr.sub, indexOf_some hm' hj, hp]) (fun id j p hj hp => by simp [Cr.sub, indexOf_some hm' hj, hp]) hv⟩⟩
  refine w2 (X1.sub m) w1' a1 Q ⟨hsr1, hks.rel, fun id hid => ?_, hr1.defers⟩ fun X2 w2' a2 hr2 hs2 => ?_
  · have : m[id]? = none := List.getElem?_eq_none (by rw [hkl] at hid; exact hid)
    exact ⟨by simp [Cr.sub, this], by simp [Cr.sub, this]⟩
  · obtain ⟨X', g1, g2, g3⟩ := kan_back (m := m) hr.rel hr.dom hmlen hs1 (Step.trans (sub_rel hr1.rel hm') hks hs2) hr2.dom (by rw [← hmlen, ← hkl]; exact l2) hstay hT hr2.sr
    exact hq X' w2' a2 ⟨g2, g1.rel, g3, hr2.defers⟩ g1
end Go.Im
