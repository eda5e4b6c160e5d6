/- The ideal machine: what its operations say of the model's (first part). -/
import Derived.Test.YtobomgckeoomkaaImRel
namespace Go.Im
section inv
variable {h : Array Obj} {own : Nat → Prop} {ρ : Rho}
theorem vr_int {s : Bool} {k : IntKind} {n : Int} {x : Value} (hv : VR h own ρ (.int s k n) x) : x = .int k n := by
  cases hv with | imm _ _ hi => cases hi; rfl
theorem vr_inK {s : Bool} {k : IntKind} {n : Int} {x : Value} (hv : VR h own ρ (.int s k n) x) : inK k n = true := by
  cases hv with | imm _ _ hi => cases hi; assumption
theorem wrap_inK (k : IntKind) (n : Int) : inK k (k.wrap n) = true := by
  cases k <;> simp [inK, kLo, kHi, IntKind.wrap, IntKind.bits, IntKind.signed] <;> (try split) <;> omega
theorem inK_spec {k : IntKind} {n : Int} : inK k n = true ↔ kLo k ≤ n ∧ n ≤ kHi k := by simp [inK]
theorem kLo_le (k : IntKind) : kLo k ≤ 0 := by cases k <;> decide
theorem kHi_ge (k : IntKind) : 0 ≤ kHi k := by cases k <;> decide
theorem tmod_inK {k : IntKind} {a b : Int} (h : inK k a = true) : inK k (a.tmod b) = true := by
  rw [inK_spec] at *
  have h1 := kLo_le k
  have h2 := kHi_ge k
  have h3 : (a.tmod b).natAbs ≤ a.natAbs := by rw [Int.natAbs_tmod]; exact Nat.mod_le _ _
  by_cases ha : 0 ≤ a
  · have := Int.tmod_nonneg b ha
    omega
  · have h4 := Int.tmod_nonneg b (show 0 ≤ -a by omega)
    rw [Int.neg_tmod] at h4
    omega
theorem fdiv_inK {k : IntKind} {a c : Int} (h : inK k a = true) (hc : 0 < c) : inK k (a.fdiv c) = true := by
  rw [inK_spec] at *
  have h1 := kLo_le k
  have h2 := kHi_ge k
  rw [Int.fdiv_eq_ediv_of_nonneg _ (by omega)]
  by_cases ha : 0 ≤ a
  · have := Int.ediv_le_self c ha
    have := Int.ediv_nonneg ha (show 0 ≤ c by omega)
    omega
  · have h3 : a ≤ a / c := by
      apply Int.le_ediv_of_mul_le hc
      have := Int.mul_le_mul_of_nonpos_left (a := a) (b := c) (c := 1) (show a ≤ 0 by omega) (show (1 : Int) ≤ c by omega)
      omega
    have h4 : a / c < 0 := Int.ediv_neg_of_neg_of_pos (by omega) hc
    omega
theorem vr_bool {s b : Bool} {x : Value} (hv : VR h own ρ (.bool s b) x) : x = .bool b := by
  cases hv with | imm _ _ hi => cases hi; rfl
theorem vr_str {s : Bool} {b : ByteArray} {x : Value} (hv : VR h own ρ (.str s b) x) : x = .string b := by
  cases hv with | imm _ _ hi => cases hi; rfl
theorem vr_nilp {x : Value} (hv : VR h own ρ .nilp x) : x = .pointer none := by
  cases hv with | imm _ _ hi => cases hi; rfl
theorem vr_nils {x : Value} (hv : VR h own ρ .nils x) : x = .slice none 0 0 := by
  cases hv with | imm _ _ hi => cases hi; rfl
theorem vr_nilf {x : Value} (hv : VR h own ρ .nilf x) : x = .nilFunc := by
  cases hv with | imm _ _ hi => cases hi; rfl
theorem vr_nili {x : Value} (hv : VR h own ρ .nili x) : x = .nilIface := by
  cases hv with | imm _ _ hi => cases hi; rfl
theorem vr_isl {s : Bool} {xs : List V} {x : Value} (hv : VR h own ρ (.isl s xs) x) : IR h own (.isl s xs) x := by
  cases hv with | imm _ _ hi => exact hi
theorem vr_iptr {e : V} {off : Nat} {x : Value} (hv : VR h own ρ (.iptr e off) x) : IR h own (.iptr e off) x := by
  cases hv with | imm _ _ hi => exact hi
theorem vr_agg {cs : List V} {x : Value} (hv : VR h own ρ (.agg cs) x) :
    ∃ xs : Array Value, x = .agg xs ∧ cs.length = xs.size ∧ ∀ (j : Nat) (v : V) (y : Value), cs[j]? = some v → xs[j]? = some y → VR h own ρ v y := by
  cases hv with
  | imm _ _ hi => cases hi with | agg _ xs hl hr => exact ⟨xs, rfl, hl, fun j v y a b => .imm _ _ (hr j v y a b)⟩
  | agg _ xs hl hr => exact ⟨xs, rfl, hl, hr⟩
theorem vr_tup {cs : List V} {x : Value} (hv : VR h own ρ (.tup cs) x) :
    ∃ xs : Array Value, x = .tuple xs ∧ cs.length = xs.size ∧ ∀ (j : Nat) (v : V) (y : Value), cs[j]? = some v → xs[j]? = some y → VR h own ρ v y := by
  cases hv with
  | imm _ _ hi => cases hi with | tup _ xs hl hr => exact ⟨xs, rfl, hl, fun j v y a b => .imm _ _ (hr j v y a b)⟩
  | tup _ xs hl hr => exact ⟨xs, rfl, hl, hr⟩
theorem vr_fn {f : Fn} {as cs : List V} {x : Value} (hv : VR h own ρ (.fn f as cs) x) :
    ∃ xs ys : Array Value, x = .func f xs ys ∧ as.length = xs.size ∧ cs.length = ys.size ∧ (∀ (j : Nat) (v : V) (y : Value), as[j]? = some v → xs[j]? = some y → VR h own ρ v y) ∧
      ∀ (j : Nat) (v : V) (y : Value), cs[j]? = some v → ys[j]? = some y → VR h own ρ v y := by
  cases hv with
  | imm _ _ hi => cases hi with | fn _ _ _ xs ys hl hr hl' hr' => exact ⟨xs, ys, rfl, hl, hl', fun j v y a b => .imm _ _ (hr j v y a b), fun j v y a b => .imm _ _ (hr' j v y a b)⟩
  | fn _ _ _ xs ys hl hr hl' hr' => exact ⟨xs, ys, rfl, hl, hl', hr, hr'⟩
theorem vr_mptr {id i off : Nat} {x : Value} (hv : VR h own ρ (.mptr id i off) x) :
    ∃ b s sz, ρ id = some (b, s, sz) ∧ x = .pointer (some ⟨b, s + i * sz + off, none⟩) := by
  cases hv with
  | imm _ _ hi => cases hi
  | mptr _ _ _ b s sz hρ => exact ⟨b, s, sz, hρ, rfl⟩
theorem vr_msl {id i len : Nat} {x : Value} (hv : VR h own ρ (.msl id i len) x) :
    ∃ (b s sz o cap : Nat) (c : Array Value) (e : TypeId) (f : Nat × Nat), ρ id = some (b, s, sz) ∧ len ≤ cap ∧ (cap = 0 ∨ o = s + i * sz) ∧ h[b]? = some (Obj.cells c e f) ∧ (cap = 0 ∨ o + cap * sz ≤ c.size) ∧
      x = .slice (some ⟨b, o, none⟩) len cap := by
  cases hv with
  | imm _ _ hi => cases hi
  | msl _ _ _ cap b s sz o c e f hρ hl ho hb hc => exact ⟨b, s, sz, o, cap, c, e, f, hρ, hl, ho, hb, hc, rfl⟩
theorem ir_vr {v : V} {x : Value} (hi : IR h own v x) : VR h own ρ v x := .imm v x hi
/-- Its cells, one by one. -/
theorem vr_one {v : V} {x : Value} (hv : VR h own ρ v x) (h1 : v.one = true) : x.oneCell' = true := by
  cases hv with
  | imm _ _ hi => cases hi <;> first | rfl | (simp [V.one] at h1)
  | agg => simp [V.one] at h1
  | tup => simp [V.one] at h1
  | _ => rfl
theorem cells_one {x : Value} (h1 : x.oneCell' = true) : x.cells = #[x] := by cases x <;> first | rfl | (simp [Value.oneCell'] at h1)
theorem vr_cells {v : V} {x : Value} (hv : VR h own ρ v x) (h1 : v.cells.all V.one = true) :
    v.cells.length = x.cells.size ∧ (∀ (j : Nat) (u : V), v.cells[j]? = some u → ∃ y, x.cells[j]? = some y ∧ VR h own ρ u y) ∧ ∀ y ∈ x.cells.toList, y.oneCell' = true := by
  have main : ∀ (cs : List V) (xs : Array Value), cs.length = xs.size → (∀ (j : Nat) (v : V) (y : Value), cs[j]? = some v → xs[j]? = some y → VR h own ρ v y) → cs.all V.one = true →
      cs.length = xs.size ∧ (∀ (j : Nat) (u : V), cs[j]? = some u → ∃ y, xs[j]? = some y ∧ VR h own ρ u y) ∧ ∀ y ∈ xs.toList, y.oneCell' = true := by
    intro cs xs hl hr ha
    have hex : ∀ (j : Nat) (u : V), cs[j]? = some u → ∃ y, xs[j]? = some y ∧ VR h own ρ u y := by
      intro j u hj
      have hlt : j < cs.length := (List.getElem?_eq_some_iff.1 hj).1
      have hx : xs[j]? = some xs[j] := Array.getElem?_eq_getElem (hl ▸ hlt)
      exact ⟨_, hx, hr j u _ hj hx⟩
    refine ⟨hl, hex, fun y hy => ?_⟩
    obtain ⟨j, hj, rfl⟩ := List.mem_iff_getElem.1 hy
    have hlt : j < cs.length := by rw [hl]; simpa using hj
    have hc : cs[j]? = some cs[j] := List.getElem?_eq_getElem hlt
    obtain ⟨z, hz, hvz⟩ := hex j _ hc
    have : xs.toList[j] = z := by
      have h2 : xs[j]? = some (xs.toList[j]) := by rw [Array.getElem?_eq_getElem (by simpa using hj)]; simp
      rw [h2] at hz; exact Option.some.inj hz
    rw [this]
    exact vr_one hvz (List.all_eq_true.1 ha _ (List.getElem_mem hlt))
  cases v with
  | agg cs =>
    obtain ⟨xs, rfl, hl, hr⟩ := vr_agg hv
    exact main cs xs hl hr h1
  | any => simp [V.cells, V.one] at h1
  | tup _ => simp [V.cells, V.one] at h1
  | _ =>
    have h1' := vr_one hv (by simpa [V.cells] using h1)
    rw [cells_one h1']
    refine main [_] #[x] rfl (fun j v y a b => ?_) h1
    cases j with
    | zero => simp at a b; subst a b; exact hv
    | succ j => simp at a
end inv
theorem ofScalar_ir {h : Array Obj} {own : Nat → Prop} {x : Value} {v : V} (e : ofScalar x = some v) : IR h own v x := by
  unfold ofScalar at e
  split at e
  case h_2 =>
    split at e
    · rename_i hn; cases e; exact .int _ _ _ hn
    · cases e
  all_goals first | (cases e; done) | (cases e; constructor)
theorem ofRes_ir {h : Array Obj} {own : Nat → Prop} {ar : Bool} {x : Value} {v : V} (e : ofRes ar x = some v) (hn : ∀ k n, ar = true → x = .int k n → inK k n = true) : IR h own v x := by
  unfold ofRes at e
  split at e
  case h_2 =>
    split at e
    · cases e; exact .int _ _ _ (hn _ _ rfl rfl)
    · cases e
  all_goals first | (cases e; done) | (cases e; constructor)
theorem ofList_ir {h : Array Obj} {own : Nat → Prop} : ∀ {xs : List Value} {vs : List V}, ofList xs = some vs → vs.length = xs.length ∧ ∀ (j : Nat) (v : V) (x : Value), vs[j]? = some v → xs[j]? = some x → IR h own v x
  | [], vs, e => by cases e; exact ⟨rfl, fun j v x a => by simp at a⟩
  | x :: xs, vs, e => by
    simp only [ofList] at e
    split at e
    · rename_i v vs' h1 h2
      cases e
      obtain ⟨hl, hr⟩ := ofList_ir (h := h) (own := own) h2
      refine ⟨by simp [hl], fun j u y a b => ?_⟩
      cases j with
      | zero => simp at a b; subst a b; exact ofScalar_ir h1
      | succ j => exact hr j u y (by simpa using a) (by simpa using b)
    · cases e
theorem ofVal_ir {h : Array Obj} {own : Nat → Prop} {x : Value} {v : V} (e : ofVal x = some v) : IR h own v x := by
  unfold ofVal at e
  split at e
  · rename_i cs
    obtain ⟨vs, h1, rfl⟩ := Option.map_eq_some_iff.1 e
    obtain ⟨hl, hr⟩ := ofList_ir (h := h) (own := own) h1
    exact .agg vs cs (by simpa using hl) fun j v x a b => hr j v x a (by simpa using b)
  · rename_i cs
    obtain ⟨vs, h1, rfl⟩ := Option.map_eq_some_iff.1 e
    obtain ⟨hl, hr⟩ := ofList_ir (h := h) (own := own) h1
    exact .tup vs cs (by simpa using hl) fun j v x a b => hr j v x a (by simpa using b)
  · exact ofScalar_ir e
/-- The slots. -/
structure SR (X : Cr) (w : World) (T : List V) (a : Act) : Prop where
  len : T.length = a.tmps.size
  at_ : ∀ (t : Nat) (v : V), T[t]? = some v → ∃ x, a.tmps[t]? = some x ∧ X.vr w v x
theorem ev_vr {X : Cr} {w : World} {T : List V} {a : Act} (hs : SR X w T a) {o : Operand} {v : V} (e : ev T o = some v) : X.vr w v (a.eval o) := by
  cases o with
  | tmp t =>
    obtain ⟨x, hx, hv⟩ := hs.at_ t v e
    simp only [Act.eval, Array.getD_eq_getD_getElem?, hx, Option.getD_some]
    exact hv
  | const c => exact .imm _ _ (ofVal_ir e)
  | global g => cases e
  | func f => cases e; exact .fn _ _ _ _ _ rfl (fun j v y a => by simp at a) rfl (fun j v y a => by simp at a)
theorem evs_vr {X : Cr} {w : World} {T : List V} {a : Act} (hs : SR X w T a) : ∀ {os : List Operand} {vs : List V}, evs T os = some vs →
    vs.length = os.length ∧ ∀ (j : Nat) (v : V) (y : Value), vs[j]? = some v → (os.map a.eval)[j]? = some y → X.vr w v y
  | [], vs, e => by cases e; exact ⟨rfl, fun j v x a => by simp at a⟩
  | o :: os, vs, e => by
    simp only [evs] at e
    split at e
    · rename_i v vs' h1 h2
      cases e
      obtain ⟨hl, hr⟩ := evs_vr hs h2
      refine ⟨by simp [hl], fun j u y a b => ?_⟩
      cases j with
      | zero => simp at a b; subst a b; exact ev_vr hs h1
      | succ j => exact hr j u y (by simpa using a) (by simpa using b)
    · cases e
theorem ask_ob {s b c : Bool} {ps ps' : List Ev} {ob ob' : Prop} (e : ask s b ps ob = some (c, ps', ob')) (h : ob') : ob ∧ b = c := by
  unfold ask at e
  split at e
  · cases e; exact ⟨h, rfl⟩
  · split at e
    · cases e; exact h
    · cases e; exact h
    · cases e; exact h
    · cases e
theorem must_ob {s b : Bool} {ps ps' : List Ev} {ob ob' : Prop} (e : must s b ps ob = some (ps', ob')) (h : ob') : ob ∧ b = true := by
  unfold must at e
  split at e
  · rename_i c ps1 ob1 h1; cases e; exact ask_ob h1 h
  · cases e
end Go.Im
