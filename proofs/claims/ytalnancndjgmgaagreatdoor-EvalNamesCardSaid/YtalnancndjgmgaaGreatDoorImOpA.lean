/- The ideal machine: what its operations say of the model's (first part). -/
import Derived.Test.YtalnancndjgmgaaGreatDoorImRel
namespace Go.Im
section inv
variable {h : Array Obj} {own : Nat → Prop} {ρ : Rho}
theorem vr_int {s : Bool} {k : IntKind} {n : Int} {x : Value} (hv : VR h own ρ (.int s k n) x) : x = .int k n := by
  cases hv with | imm _ _ hi => cases hi; rfl
theorem vr_inK {s : Bool} {k : IntKind} {n : Int} {x : Value} (hv : VR h own ρ (.int s k n) x) : inK k n = true := by
  cases hv with | imm _ _ hi => cases hi; assumption
theorem wrap_inK (k : IntKind) (n : Int) : inK k (k.wrap n) = true := by
  cases k <;> simp [inK, kLo, kHi, IntKind.wrap, IntKind.bits, IntKind.signed] <;> (try split) <;> omega
theorem inK_spec {k : IntKind} {n : Int} : inK k n = true ↔ kLo k ≤ n ∧ n ≤ kHi k := by simp [inK]
theorem kLo_le (k : IntKind) : kLo k ≤ 0 := by cases k <;> decide
theorem kHi_ge (k : IntKind) : 0 ≤ kHi k := by cases k <;> decide
theorem tmod_inK {k : IntKind} {a b : Int} (h : inK k a = true) : inK k (a.tmod b) = true := by
  rw [inK_spec] at *
  have h1 := kLo_le k
  have h2 := kHi_ge k
  have h3 : (a.tmod b).natAbs ≤ a.natAbs := by rw [Int.natAbs_tmod]; exact Nat.mod_le _ _
  by_cases ha : 0 ≤ a
  · have := Int.tmod_nonneg b ha
    omega
  · have h4 := Int.tmod_nonneg b (show 0 ≤ -a by omega)
    rw [Int.neg_tmod] at h4
    omega
theorem fdiv_inK {k : IntKind} {a c : Int} (h : inK k a = true) (hc : 0 < c) : inK k (a.fdiv c) = true := by
  rw [inK_spec] at *
  have h1 := kLo_le k
  have h2 := kHi_ge k
  rw [Int.fdiv_eq_ediv_of_nonneg _ (by omega)]
  by_cases ha : 0 ≤ a
  · have := Int.ediv_le_self c ha
    have := Int.ediv_nonneg ha (show 0 ≤ c by omega)
    omega
  · have h3 : a ≤ a / c := by
      apply Int.le_ediv_of_mul_le hc
      have := Int.mul_le_mul_of_nonpos_left (a := a) (b := c) (c := 1) (show a ≤ 0 by omega) (show (1 : Int) ≤ c by omega)
      omega
    have h4 : a / c < 0 := Int.ediv_neg_of_neg_of_pos (by omega) hc
    omega
theorem vr_bool {s b : Bool} {x : Value} (hv : VR h own ρ (.bool s b) x) : x = .bool b := by
  cases hv with | imm _ _ hi => cases hi; rfl
theorem vr_str {s : Bool} {b : ByteArray} {x : Value} (hv : VR h own ρ (.str s b) x) : x = .string b := by
  cases hv with | imm _ _ hi => cases hi; rfl
theorem vr_nilp {x : Value} (hv : VR h own ρ .nilp x) : x = .pointer none := by
  cases hv with | imm _ _ hi => cases hi; rfl
theorem vr_nils {x : Value} (hv : VR h own ρ .nils x) : x = .slice none 0 0 := by
  cases hv with | imm _ _ hi => cases hi; rfl
theorem vr_nilf {x : Value} (hv : VR h own ρ .nilf x) : x = .nilFunc := by
  cases hv with | imm _ _ hi => cases hi; rfl
theorem vr_nili {x : Value} (hv : VR h own ρ .nili x) : x = .nilIface := by
  cases hv with | imm _ _ hi => cases hi; rfl
theorem vr_isl {s : Bool} {xs : List V} {x : Value} (hv : VR h own ρ (.isl s xs) x) : IR h own (.isl s xs) x := by
  cases hv with | imm _ _ hi => exact hi
theorem vr_iptr {e : V} {off : Nat} {x : Value} (hv : VR h own ρ (.iptr e off) x) : IR h own (.iptr e off) x := by
  cases hv with | imm _ _ hi => exact hi
theorem vr_agg {cs : List V} {x : Value} (hv : VR h own ρ (.agg cs) x) :
    ∃ xs : Array Value, x = .agg xs ∧ cs.length = xs.size ∧ ∀ (j : Nat) (v : V) (y : Value), cs[j]? = some v → xs[j]? = some y → VR h own ρ v y := by
  cases hv with
  | imm _ _ hi => cases hi with | agg _ xs hl hr => exact ⟨xs, rfl, hl, fun j v y a b => .imm _ _ (hr j v y a b)⟩
  | agg _ xs hl hr => exact ⟨xs, rfl, hl, hr⟩
theorem vr_tup {cs : List V} {x : Value} (hv : VR h own ρ (.tup cs) x) :
    ∃ xs : Array Value, x = .tuple xs ∧ cs.length = xs.size ∧ ∀ (j : Nat) (v : V) (y : Value), cs[j]? = some v → xs[j]? = some y → VR h own ρ v y := by
  cases hv with
  | imm _ _ hi => cases hi with | tup _ xs hl hr => exact ⟨xs, rfl, hl, fun j v y a b => .imm _ _ (hr j v y a b)⟩
  | tup _ xs hl hr => exact ⟨xs, rfl, hl, hr⟩
theorem vr_fn {f : Fn} {az cs : List V} {x : Value} (hv : VR h own ρ (.fn f az cs) x) :
    ∃ xs ys : Array Value, x = .func f xs ys ∧ az.length = xs.size ∧ cs.length = ys.size ∧ (∀ (j : Nat) (v : V) (y : Value), az[j]? = some v → xs[j]? = some y → VR h own ρ v y) ∧
      ∀ (j : Nat) (v : V) (y : Value), cs[j]? = some v → ys[j]? = some y → VR h own ρ v y := by
  cases hv with
  | imm _ _ hi => cases hi with | fn _ _ _ xs ys hl hr hl' hr' => exact ⟨xs, ys, rfl, hl, hl', fun j v y a b => .imm _ _ (hr j v y a b), fun j v y a b => .imm _ _ (hr' j v y a b)⟩
  | fn _ _ _ xs ys hl hr hl' hr' => exact ⟨xs, ys, rfl, hl, hl', hr, hr'⟩
theorem vr_mptr {id i off : Nat} {x : Value} (hv : VR h own ρ (.mptr id i off) x) :
    ∃ b s sz, ρ id = some (b, s, sz) ∧ x = .pointer (some ⟨b, s + i * sz + off, none⟩) := by
  cases hv with
  | imm _ _ hi => cases hi
  | mptr _ _ _ b s sz hρ => exact ⟨b, s, sz, hρ, rfl⟩
theorem vr_msl {id i len : Nat} {x : Value} (hv : VR h own ρ (.msl id i len) x) :
    ∃ (b s sz o cap : Nat) (c : Array Value) (e : TypeId) (f : Nat × Nat), ρ id = some (b, s, sz) ∧ len ≤ cap ∧ (cap = 0 ∨ o = s + i * sz) ∧ h[b]? = some (Obj.cells c e f) ∧ (cap = 0 ∨ o + cap * sz ≤ c.size) ∧
      x = .slice (some ⟨b, o, none⟩) len cap := by
  cases hv with
  | imm _ _ hi => cases hi
  | msl _ _ _ cap b s sz o c e f hρ hl ho hb hc => exact ⟨b, s, sz, o, cap, c, e, f, hρ, hl, ho, hb, hc, rfl⟩
theorem vr_osl {id : Nat} {x : Value} (hv : VR h own ρ (.osl false id) x) : ρ.n id = some x := by
  cases hv with
  | imm _ _ hi => cases hi
  | osl _ _ _ _ hn => exact hn
theorem vr_odp {id : Nat} {x : Value} (hv : VR h own ρ (.osl true id) x) : ∃ a n c, ρ.n id = some (.slice a n c) ∧ x = .pointer a := by
  cases hv with
  | imm _ _ hi => cases hi
  | odp _ n c a hn => exact ⟨a, n, c, hn, rfl⟩
theorem ir_vr {v : V} {x : Value} (hi : IR h own v x) : VR h own ρ v x := .imm v x hi
/-- Its cells, one by one. -/
theorem vr_one {v : V} {x : Value} (hv : VR h own ρ v x) (h1 : v.one = true) : x.oneCell' = true := by
  cases hv with
  | imm _ _ hi => cases hi <;> first | rfl | assumption | (simp [V.one] at h1)
  | agg => simp [V.one] at h1
  | tup => simp [V.one] at h1
  | _ => rfl
theorem cells_one {x : Value} (h1 : x.oneCell' = true) : x.cells = #[x] := by cases x <;> first | rfl | (simp [Value.oneCell'] at h1)
theorem vr_cells {v : V} {x : Value} (hv : VR h own ρ v x) (h1 : v.cells.all V.one = true) :
    v.cells.length = x.cells.size ∧ (∀ (j : Nat) (u : V), v.cells[j]? = some u → ∃ y, x.cells[j]? = some y ∧ VR h own ρ u y) ∧ ∀ y ∈ x.cells.toList, y.oneCell' = true := by
  have main : ∀ (cs : List V) (xs : Array Value), cs.length = xs.size → (∀ (j : Nat) (v : V) (y : Value), cs[j]? = some v → xs[j]? = some y → VR h own ρ v y) → cs.all V.one = true →
      cs.length = xs.size ∧ (∀ (j : Nat) (u : V), cs[j]? = some u → ∃ y, xs[j]? = some y ∧ VR h own ρ u y) ∧ ∀ y ∈ xs.toList, y.oneCell' = true := by
    intro cs xs hl hr ha
    have hex : ∀ (j : Nat) (u : V), cs[j]? = some u → ∃ y, xs[j]? = some y ∧ VR h own ρ u y := by
      intro j u hj
      have hlt : j < cs.length := (List.getElem?_eq_some_iff.1 hj).1
      have hx : xs[j]? = some xs[j] := Array.getElem?_eq_getElem (hl ▸ hlt)
      exact ⟨_, hx, hr j u _ hj hx⟩
    refine ⟨hl, hex, fun y hy => ?_⟩
    obtain ⟨j, hj, rfl⟩ := List.mem_iff_getElem.1 hy
    have hlt : j < cs.length := by rw [hl]; simpa using hj
    have hc : cs[j]? = some cs[j] := List.getElem?_eq_getElem hlt
    obtain ⟨z, hz, hvz⟩ := hex j _ hc
    have : xs.toList[j] = z := by
      have h2 : xs[j]? = some (xs.toList[j]) := by rw [Array.getElem?_eq_getElem (by simpa using hj)]; simp
      rw [h2] at hz; exact Option.some.inj hz
    rw [this]
    exact vr_one hvz (List.all_eq_true.1 ha _ (List.getElem_mem hlt))
  cases v with
  | agg cs =>
    obtain ⟨xs, rfl, hl, hr⟩ := vr_agg hv
    exact main cs xs hl hr h1
  | any => simp [V.cells, V.one] at h1
  | tup _ => simp [V.cells, V.one] at h1
  | _ =>
    have h1' := vr_one hv (by simpa [V.cells] using h1)
    rw [cells_one h1']
    refine main [_] #[x] rfl (fun j v y a b => ?_) h1
    cases j with
    | zero => simp at a b; subst a b; exact hv
    | succ j => simp at a
end inv
theorem ofScalar_ir {h : Array Obj} {own : Nat → Prop} {x : Value} {v : V} (e : ofScalar x = some v) : IR h own v x := by
  unfold ofScalar at e
  split at e
  case h_2 =>
    split at e
    · rename_i hn; cases e; exact .int _ _ _ hn
    · cases e
  all_goals first | (cases e; done) | (cases e; constructor)
theorem ofRes_ir {h : Array Obj} {own : Nat → Prop} {ar : Bool} {x : Value} {v : V} (e : ofRes ar x = some v) (hn : ∀ k n, ar = true → x = .int k n → inK k n = true) : IR h own v x := by
  unfold ofRes at e
  split at e
  case h_2 =>
    split at e
    · cases e; exact .int _ _ _ (hn _ _ rfl rfl)
    · cases e
  all_goals first | (cases e; done) | (cases e; constructor)
theorem ofList_ir {h : Array Obj} {own : Nat → Prop} : ∀ {xs : List Value} {vs : List V}, ofList xs = some vs → vs.length = xs.length ∧ ∀ (j : Nat) (v : V) (x : Value), vs[j]? = some v → xs[j]? = some x → IR h own v x
  | [], vs, e => by cases e; exact ⟨rfl, fun j v x a => by simp at a⟩
  | x :: xs, vs, e => by
    simp only [ofList] at e
    split at e
    · rename_i v vs' h1 h2
      cases e
      obtain ⟨hl, hr⟩ := ofList_ir (h := h) (own := own) h2
      refine ⟨by simp [hl], fun j u y a b => ?_⟩
      cases j with
      | zero => simp at a b; subst a b; exact ofScalar_ir h1
      | succ j => exact hr j u y (by simpa using a) (by simpa using b)
    · cases e
theorem ofVal_ir {h : Array Obj} {own : Nat → Prop} {x : Value} {v : V} (e : ofVal x = some v) : IR h own v x := by
  unfold ofVal at e
  split at e
  · rename_i cs
    obtain ⟨vs, h1, rfl⟩ := Option.map_eq_some_iff.1 e
    obtain ⟨hl, hr⟩ := ofList_ir (h := h) (own := own) h1
    exact .agg vs cs (by simpa using hl) fun j v x a b => hr j v x a (by simpa using b)
  · rename_i cs
    obtain ⟨vs, h1, rfl⟩ := Option.map_eq_some_iff.1 e
    obtain ⟨hl, hr⟩ := ofList_ir (h := h) (own := own) h1
    exact .tup vs cs (by simpa using hl) fun j v x a b => hr j v x a (by simpa using b)
  · exact ofScalar_ir e
/-- The slots. -/
structure SR (X : Cr) (w : World) (T : List V) (a : Act) : Prop where
  len : T.length = a.tmps.size
  at_ : ∀ (t : Nat) (v : V), T[t]? = some v → ∃ x, a.tmps[t]? = some x ∧ X.vr w v x
theorem ev_vr {X : Cr} {w : World} {T : List V} {a : Act} (hs : SR X w T a) {o : Operand} {v : V} (e : ev T o = some v) : X.vr w v (a.eval o) := by
  cases o with
  | tmp t =>
    obtain ⟨x, hx, hv⟩ := hs.at_ t v e
    simp only [Act.eval, Array.getD_eq_getD_getElem?, hx, Option.getD_some]
    exact hv
  | const c => exact .imm _ _ (ofVal_ir e)
  | global g => cases e
  | func f => cases e; exact .fn _ _ _ _ _ rfl (fun j v y a => by simp at a) rfl (fun j v y a => by simp at a)
theorem evs_vr {X : Cr} {w : World} {T : List V} {a : Act} (hs : SR X w T a) : ∀ {os : List Operand} {vs : List V}, evs T os = some vs →
    vs.length = os.length ∧ ∀ (j : Nat) (v : V) (y : Value), vs[j]? = some v → (os.map a.eval)[j]? = some y → X.vr w v y
  | [], vs, e => by cases e; exact ⟨rfl, fun j v x a => by simp at a⟩
  | o :: os, vs, e => by
    simp only [evs] at e
    split at e
    · rename_i v vs' h1 h2
      cases e
      obtain ⟨hl, hr⟩ := evs_vr hs h2
      refine ⟨by simp [hl], fun j u y a b => ?_⟩
      cases j with
      | zero => simp at a b; subst a b; exact ev_vr hs h1
      | succ j => exact hr j u y (by simpa using a) (by simpa using b)
    · cases e
theorem ask_ob {s b c : Bool} {ps ps' : List Ev} {ob ob' : Prop} (e : ask s b ps ob = some (c, ps', ob')) (h : ob') : ob ∧ b = c := by
  unfold ask at e
  split at e
  · cases e; exact ⟨h, rfl⟩
  · split at e
    · cases e; exact h
    · cases e; exact h
    · cases e; exact h
    · cases e
theorem must_ob {s b : Bool} {ps ps' : List Ev} {ob ob' : Prop} (e : must s b ps ob = some (ps', ob')) (h : ob') : ob ∧ b = true := by
  unfold must at e
  split at e
  · rename_i c ps1 ob1 h1; cases e; exact ask_ob h1 h
  · cases e
theorem symL_get : ∀ {vs : List V} {j : Nat} {v : V}, (symL vs)[j]? = some v → ∃ u, vs[j]? = some u ∧ v = symV u
  | [], j, v, h => by simp [symL] at h
  | u :: vs, 0, v, h => by simp [symL] at h; exact ⟨u, rfl, h.symm⟩
  | u :: vs, j + 1, v, h => by
    obtain ⟨u', h1, h2⟩ := symL_get (vs := vs) (j := j) (by simpa [symL] using h)
    exact ⟨u', by simpa using h1, h2⟩
theorem symL_len : ∀ vs : List V, (symL vs).length = vs.length
  | [] => rfl
  | v :: vs => by simp [symL, symL_len vs]
theorem symV_cells (v : V) : (symV v).cells = symL v.cells := by
  cases v <;> simp [symV, V.cells, symL]
mutual
theorem symV_ir {h : Array Obj} {own : Nat → Prop} : ∀ {v : V} {x : Value}, IR h own v x → IR h own (symV v) x
  | .bool _ _, _, .bool _ _ => .bool _ _
  | .int _ _ _, _, .int _ _ _ hn => .int _ _ _ hn
  | .str _ _, _, .str _ _ => .str _ _
  | .agg cs, _, .agg _ xs hl hr => .agg _ xs (by rw [symL_len]; exact hl) fun j v x hj hx => by
      obtain ⟨u, hu, rfl⟩ := symL_get hj
      exact symL_ir cs j hu (hr j u x hu hx)
  | .tup cs, _, .tup _ xs hl hr => .tup _ xs (by rw [symL_len]; exact hl) fun j v x hj hx => by
      obtain ⟨u, hu, rfl⟩ := symL_get hj
      exact symL_ir cs j hu (hr j u x hu hx)
  | .any, _, hi => hi
  | .opq, _, hi => hi
  | .nilp, _, hi => hi
  | .nils, _, hi => hi
  | .nilf, _, hi => hi
  | .nili, _, hi => hi
  | .iptr _ _, _, hi => hi
  | .isl _ _, _, hi => hi
  | .mptr _ _ _, _, hi => hi
  | .msl _ _ _, _, hi => hi
  | .osl _ _, _, hi => hi
  | .fn _ _ _, _, hi => hi
  | .ifc _ _, _, hi => hi
theorem symL_ir {h : Array Obj} {own : Nat → Prop} : ∀ (cs : List V) (j : Nat) {u : V} {x : Value}, cs[j]? = some u → IR h own u x → IR h own (symV u) x
  | [], j, u, x, hu, _ => by simp at hu
  | c :: cs, 0, u, x, hu, hi => by simp at hu; subst hu; exact symV_ir hi
  | c :: cs, j + 1, u, x, hu, hi => symL_ir cs j (by simpa using hu) hi
end
/-- An element, or less of what is said of it. -/
theorem elemAt_ob {s : Bool} {xs : List V} {i : Nat} {ps ps' : List Ev} {ob ob' : Prop} {e : V} (h : elemAt s xs i ps ob = some (e, ps', ob')) (ho : ob') : ob ∧ ∃ u, xs[i]? = some u ∧ e.cells.length = u.cells.length ∧
    ∀ (j : Nat) (v : V), e.cells[j]? = some v → ∃ v', u.cells[j]? = some v' ∧ ∀ (hp : Array Obj) (own : Nat → Prop) (x : Value), IR hp own v' x → IR hp own v x := by
  have same : ∀ {ob : Prop} {e : V}, ob → xs[i]? = some e → ob ∧ ∃ u, xs[i]? = some u ∧ e.cells.length = u.cells.length ∧
      ∀ (j : Nat) (v : V), e.cells[j]? = some v → ∃ v', u.cells[j]? = some v' ∧ ∀ (hp : Array Obj) (own : Nat → Prop) (x : Value), IR hp own v' x → IR hp own v x :=
    fun ho he => ⟨ho, _, he, rfl, fun j v hv => ⟨v, hv, fun _ _ _ h => h⟩⟩
  unfold elemAt at h
  split at h
  · obtain ⟨x, hx, he⟩ := Option.map_eq_some_iff.1 h; cases he; exact same ho hx
  · split at h
    · cases h; exact same ho.1 ho.2
    · cases h
      obtain ⟨h1, h2⟩ := ho
      obtain ⟨u, hu, rfl⟩ := Option.map_eq_some_iff.1 (List.getElem?_map .. ▸ h2)
      refine ⟨h1, u, hu, by rw [symV_cells, symL_len], fun j v hv => ?_⟩
      rw [symV_cells] at hv
      obtain ⟨v', hv', rfl⟩ := symL_get hv
      exact ⟨v', hv', fun _ _ _ h => symV_ir h⟩
    · split at h
      · rename_i e' he
        cases h
        refine same ho.1 ?_
        rw [eq_of_beq ho.2]
        exact he
      · cases h
    · cases h
end Go.Im
