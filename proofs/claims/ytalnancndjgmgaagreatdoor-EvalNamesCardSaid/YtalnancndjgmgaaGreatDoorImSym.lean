/- The ideal machine: one way through a function, its tests asked for. -/
import Derived.Test.YtalnancndjgmgaaGreatDoorImTop
namespace Go.Im
/-- A function's run along a way: what was asked, its answer, its blocks. -/
def run (E : Env) (f : FuncId) (args : List V) (H : Heap) (ps : List Ev) : Option (Prop × V × Heap) :=
  match E.P.funcs[f]? with
  | some fn => match fn.body with
    | some c => match exec E 1000 c ⟨enterV fn args, H, ps, True⟩ with
      | some (.normal, ⟨T, H', [], ob⟩) | some (.ret, ⟨T, H', [], ob⟩) => match finish E.P fn E.cx.keepRes H.length T H' with
        | some (v, H') => some (ob, v, H')
        | none => none
      | _ => none
    | none => none
  | none => none
theorem sim_run {E : Env} (hE : EnvOk E) {f : FuncId} {args : List V} {H : Heap} {ps : List Ev} {ob : Prop} {v : V} {H' : Heap} (h : run E f args H ps = some (ob, v, H')) (ho : ob) : Sim E.P f args H v H' := by
  unfold run at h
  split at h
  · rename_i fn hf
    split at h
    · rename_i c hb
      split at h
      · rename_i T H1 ob1 hx
        split at h
        · rename_i hfin; cases h; exact sim_of_exec hE hf hb hx (.inl rfl) ho hfin
        · cases h
      · rename_i T H1 ob1 hx
        split at h
        · rename_i hfin; cases h; exact sim_of_exec hE hf hb hx (.inr rfl) ho hfin
        · cases h
      · cases h
    · cases h
  · cases h
/-- v' says no more than v. -/
def Says (v v' : V) : Prop := ∀ (h : Array Obj) (own : Nat → Prop) (ρ : Rho) (x : Value), VR h own ρ v x → VR h own ρ v' x
theorem Says.refl (v : V) : Says v v := fun _ _ _ _ h => h
theorem Says.bool {s s' b b' : Bool} (h : b = b') : Says (.bool s b) (.bool s' b') := fun _ _ _ _ hv => by rw [vr_bool hv, h]; exact .imm _ _ (.bool _ _)
theorem Says.int {s s' : Bool} {k : IntKind} {n n' : Int} (h : n = n') : Says (.int s k n) (.int s' k n') := fun _ _ _ _ hv => by have hk := vr_inK hv; rw [vr_int hv, h]; exact .imm _ _ (.int _ _ _ (h ▸ hk))
theorem Says.str {s s' : Bool} {b b' : ByteArray} (h : b = b') : Says (.str s b) (.str s' b') := fun _ _ _ _ hv => by rw [vr_str hv, h]; exact .imm _ _ (.str _ _)
inductive SaysL : List V → List V → Prop
  | nil : SaysL [] []
  | cons {v v' : V} {vs vs' : List V} (h : Says v v') (t : SaysL vs vs') : SaysL (v :: vs) (v' :: vs')
theorem SaysL.len {vs vs' : List V} (h : SaysL vs vs') : vs.length = vs'.length := by
  induction h with
  | nil => rfl
  | cons _ _ ih => simp [ih]
theorem SaysL.get {vs vs' : List V} (h : SaysL vs vs') : ∀ {j : Nat} {u : V}, vs'[j]? = some u → ∃ v, vs[j]? = some v ∧ Says v u := by
  induction h with
  | nil => intro j u hj; simp at hj
  | cons h _ ih =>
    intro j u hj
    cases j with
    | zero => simp at hj; subst hj; exact ⟨_, rfl, h⟩
    | succ j => simpa using ih (by simpa using hj)
theorem Says.agg {cs cs' : List V} (h : SaysL cs cs') : Says (.agg cs) (.agg cs') := fun _ _ _ _ hv => by
  obtain ⟨xs, rfl, hl, hr⟩ := vr_agg hv
  exact .agg _ xs (by rw [← h.len]; exact hl) fun j u x hj hx => by obtain ⟨v, hv, hs⟩ := h.get hj; exact hs _ _ _ _ (hr j v x hv hx)
theorem Says.tup {cs cs' : List V} (h : SaysL cs cs') : Says (.tup cs) (.tup cs') := fun _ _ _ _ hv => by
  obtain ⟨xs, rfl, hl, hr⟩ := vr_tup hv
  exact .tup _ xs (by rw [← h.len]; exact hl) fun j u x hj hx => by obtain ⟨v, hv, hs⟩ := h.get hj; exact hs _ _ _ _ (hr j v x hv hx)
theorem Sim.says {P : Program} {f : FuncId} {args : List V} {H : Heap} {v v' : V} {H' : Heap} (h : Sim P f args H v H') (hs : Says v v') : Sim P f args H v' H' :=
  ⟨h.1, fun X w xs hr hd hl hx => (h.2 X w xs hr hd hl hx).mono fun _ _ ⟨X', x, he, hst, hv, hdm⟩ => ⟨X', x, he, hst, hs _ _ _ _ hv, hdm⟩⟩
theorem Sim.args {P : Program} {f : FuncId} {args args' : List V} {H : Heap} {v : V} {H' : Heap} (h : Sim P f args' H v H') (hs : SaysL args args') : Sim P f args H v H' :=
  ⟨h.1, fun X w xs hr hd hl hx => h.2 X w xs hr hd (by rw [← hs.len]; exact hl) fun j u x hj hjx => by obtain ⟨v, hv, hsv⟩ := hs.get hj; exact hsv _ _ _ _ (hx j v x hv hjx)⟩
mutual
/-- Its numbers are of their kinds. -/
def rngV : V → Prop
  | .int _ k n => kLo k ≤ n ∧ n ≤ kHi k
  | .agg cs => rngL cs
  | .iptr e _ => rngV e
  | .fn _ _ cs => rngL cs
  | _ => True
def rngL : List V → Prop
  | [] => True
  | v :: vs => rngV v ∧ rngL vs
end
theorem rngL_of : ∀ {vs : List V}, (∀ (j : Nat) (v : V), vs[j]? = some v → rngV v) → rngL vs
  | [], _ => trivial
  | v :: vs, h => ⟨h 0 v rfl, rngL_of fun j u hj => h (j + 1) u (by simpa using hj)⟩
theorem get_some {xs : Array Value} {j n : Nat} (hl : n = xs.size) (hj : j < n) : ∃ x, xs[j]? = some x := ⟨xs[j]'(by omega), by simp [hl ▸ hj]⟩
theorem ir_rng {h : Array Obj} {own : Nat → Prop} {v : V} {x : Value} (hv : IR h own v x) : rngV v := by
  induction hv with
  | int s k n hn => exact inK_spec.1 hn
  | agg cs xs hl hr ih =>
    refine rngL_of fun j v hj => ?_
    obtain ⟨x, hx⟩ := get_some hl (List.getElem?_eq_some_iff.1 hj).1
    exact ih j v x hj hx
  | fn f az cs xs ys hl hr hl' hr' _ ih' =>
    refine rngL_of fun j v hj => ?_
    obtain ⟨x, hx⟩ := get_some hl' (List.getElem?_eq_some_iff.1 hj).1
    exact ih' j v x hj hx
  | iptr e off b o c t f xv hown hb hc hr ih =>
    simp only [rngV]
    cases e <;> first
      | exact rngL_of fun j v hj => ih j v hj
      | exact ih 0 _ rfl
      | trivial
  | _ => trivial
theorem vr_rng {h : Array Obj} {own : Nat → Prop} {ρ : Rho} {v : V} {x : Value} (hv : VR h own ρ v x) : rngV v := by
  induction hv with
  | imm v x hi => exact ir_rng hi
  | agg cs xs hl hr ih =>
    refine rngL_of fun j v hj => ?_
    obtain ⟨x, hx⟩ := get_some hl (List.getElem?_eq_some_iff.1 hj).1
    exact ih j v x hj hx
  | fn f az cs xs ys hl hr hl' hr' _ ih' =>
    refine rngL_of fun j v hj => ?_
    obtain ⟨x, hx⟩ := get_some hl' (List.getElem?_eq_some_iff.1 hj).1
    exact ih' j v x hj hx
  | _ => trivial
/-- What a contract asks of the numbers' kinds it has. -/
theorem Sim.rng {P : Program} {f : FuncId} {args : List V} {v : V} (h : rngL args → Sim P f args [] v []) : Sim P f args [] v [] :=
  ⟨fun j B hj => by simp at hj, fun X w xs hr hd hl hx => (h (rngL_of fun j u hj => by
    obtain ⟨x, hx'⟩ := get_some hl (List.getElem?_eq_some_iff.1 hj).1
    exact vr_rng (hx j u x hj hx'))).2 X w xs hr hd hl hx⟩
mutual
theorem symV_says : ∀ v : V, Says v (symV v)
  | .bool _ _ => Says.bool rfl
  | .int _ _ _ => Says.int rfl
  | .str _ _ => Says.str rfl
  | .isl _ _ => Says.refl _
  | .agg cs => Says.agg (symL_says cs)
  | .tup cs => Says.tup (symL_says cs)
  | .any => Says.refl _
  | .opq => Says.refl _
  | .nilp => Says.refl _
  | .nils => Says.refl _
  | .nilf => Says.refl _
  | .nili => Says.refl _
  | .iptr _ _ => Says.refl _
  | .mptr _ _ _ => Says.refl _
  | .msl _ _ _ => Says.refl _
  | .osl _ _ => Says.refl _
  | .fn _ _ _ => Says.refl _
  | .ifc _ _ => Says.refl _
theorem symL_says : ∀ vs : List V, SaysL vs (symL vs)
  | [] => .nil
  | v :: vs => .cons (symV_says v) (symL_says vs)
end
/-- The machine over known answers: what they say of symbols is asked of any arguments. -/
def symCall (orc : FuncId → List V → Heap → Option (V × Heap)) : FuncId → List V → Heap → Option (V × Heap) := fun f args H => orc f (symL args) H
def envOf (P : Program) (cx : Cx) (orc : FuncId → List V → Heap → Option (V × Heap)) : Env := { P, cx, call := symCall orc, sim := Sim P, loop := SimR P, code := SimC P }
theorem envOf_ok {P : Program} (hm : PGood P) {cx : Cx} {orc : FuncId → List V → Heap → Option (V × Heap)} (horc : ∀ f a H v H', orc f a H = some (v, H') → Sim P f a H v H') : EnvOk (envOf P cx orc) :=
  ⟨hm, fun f a H v H' h => (horc f _ H v H' h).args (symL_says a), fun _ _ _ _ _ h => h, fun _ _ _ _ _ _ h => h, fun _ _ _ _ _ _ h => h⟩
abbrev Orc := FuncId → List V → Heap → Option (V × Heap)
def OrcOk (P : Program) (orc : Orc) : Prop := ∀ f a H v H', orc f a H = some (v, H') → Sim P f a H v H'
def orcNil : Orc := fun _ _ _ => none
theorem orcNil_ok (P : Program) : OrcOk P orcNil := fun _ _ _ _ _ h => by cases h
/-- One more function is known. -/
def orcAdd (n : FuncId) (o : List V → Option V) (orc : Orc) : Orc := fun f args H => match f == n with
  | true => match H with
    | [] => match o args with
      | some v => some (v, [])
      | none => orc f args H
    | _ :: _ => orc f args H
  | false => orc f args H
theorem orcAdd_ok {P : Program} {n : FuncId} {o : List V → Option V} {orc : Orc} (h : OrcOk P orc) (ho : ∀ a v, o a = some v → Sim P n a [] v []) : OrcOk P (orcAdd n o orc) := by
  intro f a H v H' hf
  unfold orcAdd at hf
  split at hf
  · rename_i hn
    have hn' : f = n := by simpa using hn
    subst hn'
    split at hf
    · split at hf
      · rename_i v' hv
        cases hf
        exact ho a v hv
      · exact h f a _ v H' hf
    · exact h f a _ v H' hf
  · exact h f a H v H' hf
end Go.Im
