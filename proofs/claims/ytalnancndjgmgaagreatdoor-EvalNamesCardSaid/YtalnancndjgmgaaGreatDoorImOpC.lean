/- The ideal machine: new blocks. -/
import Derived.Test.YtalnancndjgmgaaGreatDoorImOpB
namespace Go.Im
theorem pureL_get : ∀ {cs : List V}, pureL cs = true → ∀ {j : Nat} {v : V}, cs[j]? = some v → v.pure = true
  | [], _, _, _, h => by simp at h
  | c :: cs, hp, j, v, h => by
    simp only [pureL, Bool.and_eq_true] at hp
    cases j with
    | zero => simp at h; subst h; exact hp.1
    | succ j => exact pureL_get hp.2 (by simpa using h)
theorem pure_ir {h : Array Obj} {own : Nat → Prop} {ρ : Rho} {v : V} {x : Value} (hv : VR h own ρ v x) (hp : v.pure = true) : IR h own v x := by
  induction hv with
  | imm v x hi => exact hi
  | mptr => simp [V.pure] at hp
  | msl => simp [V.pure] at hp
  | osl => simp [V.pure] at hp
  | odp => simp [V.pure] at hp
  | agg cs xs hl hr ih => exact .agg cs xs hl fun j v x a b => ih j v x a b (pureL_get (by simpa [V.pure] using hp) a)
  | tup cs xs hl hr ih => exact .tup cs xs hl fun j v x a b => ih j v x a b (pureL_get (by simpa [V.pure] using hp) a)
  | fn f az cs xs ys hl hr hl' hr' ih ih' =>
    simp only [V.pure, Bool.and_eq_true] at hp
    exact .fn f az cs xs ys hl (fun j v x a b => ih j v x a b (pureL_get hp.1 a)) hl' (fun j v x a b => ih' j v x a b (pureL_get hp.2 a))
  | ifc t v x hr ih => exact .ifc t v x (ih (by simpa [V.pure] using hp))
def Cr.add (X : Cr) (nid b sz : Nat) : Cr := ⟨fun k => X.own k ∨ k = b, ⟨fun i => if i = nid then some (b, 0, sz) else X.ρ i, X.ρ.n⟩⟩
theorem push_get {w w' : World} {o : Obj} (hh : w'.heap = w.heap.push o) {k : Nat} (hk : k < w.heap.size) : w'.heap[k]? = w.heap[k]? := by
  rw [hh, Array.getElem?_push, if_neg (by omega)]
theorem push_new {w w' : World} {o : Obj} (hh : w'.heap = w.heap.push o) : w'.heap[w.heap.size]? = some o := by
  rw [hh, Array.getElem?_push, if_pos rfl]
theorem newL_one (l : Look) (nid : Nat) (B : Option Blk) : newL l nid [B] = fun i => if i = nid then B else l i := by
  funext i
  simp only [newL]
  by_cases h : nid ≤ i
  · rw [if_pos h]
    by_cases h2 : i = nid
    · subst h2; simp
    · rw [if_neg h2, List.getElem?_eq_none (by simp; omega)]
  · rw [if_neg h, if_neg (by omega)]
/-- A block is made, of the call's own. -/
theorem alloc_step {X : Cr} {w w' : World} {l : Look} (hl : RelL X w l) {nid : Nat} (hn : X.ρ nid = none) {B : Blk} {c : Array Value} {t : TypeId}
    (hos : w'.os = w.os) (htape : w'.tape = w.tape) (hout : w'.output = w.output) (hh : w'.heap = w.heap.push (.cells c t (0, 0))) (hrow : ∀ X' w', Ext X w l X' w' → Row X' w' B c 0) (hty : ∀ t', B.ty = some t' → t = t' ∧ c.size = B.sz := by intro t' h; cases h) (hlst : B.lst = false := by rfl) :
    Step X w l (X.add nid w.heap.size B.sz) w' (newL l nid [some B]) := by
  have hsz : w'.heap.size = w.heap.size + 1 := by rw [hh]; simp
  have hE : Ext X w l (X.add nid w.heap.size B.sz) w' := by
    refine ⟨hos, htape, hout, by omega, fun i p hp => ?_, fun _ _ h => h, fun k hk _ => push_get hh hk, fun k hk ho h => ?_, fun k ho _ => .inl ho, fun k d e f hk => ⟨d, f, by rw [push_get hh (heap_lt hk)]; exact hk, rfl⟩⟩
    · simp only [Cr.add]
      rw [if_neg (by rintro rfl; rw [hn] at hp; cases hp)]
      exact hp
    · rcases h with h | h
      · exact ho h
      · omega
  rw [newL_one]
  refine { toExt := hE, rel := ⟨fun i Bi hi => ?_, fun i j Bi Bj p q hi hj hp hq hpq => ?_, fun k hk => ?_, hl.gl.ext hE⟩, nl := fun k hk => ?_ }
  · try dsimp only at hi
    split at hi
    · cases hi
      subst_vars
      exact .inr ⟨w.heap.size, 0, c, t, by simp [Cr.add], .inr rfl, push_new hh, hrow _ _ hE, fun t' h => ⟨(hty t' h).1, rfl, (hty t' h).2⟩, fun h => by rw [hlst] at h; cases h⟩
    · rename_i hne
      rcases hl.blk i Bi hi with hg | hr
      · exact .inl (hg.mono (by simp [Cr.add, hne]) fun _ h => h)
      · refine .inr (hr.ext hE fun b1 s1 z1 hρ1 => ?_)
        obtain ⟨_, _, _, _, hρ2, ho2, _⟩ := hr
        rw [hρ1] at hρ2
        cases hρ2
        exact ⟨.inl ho2, push_get hh (hl.lt b1 ho2)⟩
  · have hold : ∀ m Bm p, l m = some Bm → X.ρ m = some p → p.1 < w.heap.size := by
      intro m Bm p hm hp
      obtain ⟨b1, s1, c1, t1, hρ1, ho1, _, _⟩ := hl.real hm hp
      rw [hρ1] at hp
      cases hp
      exact hl.lt b1 ho1
    try dsimp only at hi hj
    simp only [Cr.add] at hp hq
    split at hi <;> split at hj
    · omega
    · rename_i h1 h2
      rw [if_pos h1] at hp
      rw [if_neg h2] at hq
      cases hp
      have := hold j Bj q hj hq
      dsimp only at hpq
      omega
    · rename_i h1 h2
      rw [if_pos h2] at hq
      rw [if_neg h1] at hp
      cases hq
      have := hold i Bi p hi hp
      dsimp only at hpq
      omega
    · rename_i h1 h2
      rw [if_neg h1] at hp
      rw [if_neg h2] at hq
      exact hl.inj i j Bi Bj p q hi hj hp hq hpq
  · rcases hk with hk | hk
    · have := hl.lt k hk; omega
    · omega
  · obtain ⟨m, Bm, s', z, hm, hρm⟩ := hk
    try dsimp only at hm
    simp only [Cr.add] at hρm
    split at hm
    · rename_i h1
      rw [if_pos h1] at hρm
      cases hρm
      exact .inl (Nat.le_refl _)
    · rename_i h1
      rw [if_neg h1] at hρm
      exact .inr ⟨m, Bm, s', z, hm, hρm⟩
/-- A block is made that is nobody's. -/
theorem imm_step {X : Cr} {w w' : World} {l : Look} (hl : RelL X w l) {o : Obj}
    (hos : w'.os = w.os) (htape : w'.tape = w.tape) (hout : w'.output = w.output) (hh : w'.heap = w.heap.push o) : Step X w l X w' l := by
  have hsz : w'.heap.size = w.heap.size + 1 := by rw [hh]; simp
  have hE : Ext X w l X w' := ⟨hos, htape, hout, by omega, fun _ _ h => h, fun _ _ h => h, fun k hk _ => push_get hh hk, fun _ _ h => h, fun _ h _ => h, fun k d e f hk => ⟨d, f, by rw [push_get hh (heap_lt hk)]; exact hk, rfl⟩⟩
  refine { toExt := hE, rel := ⟨fun i Bi hi => ?_, hl.inj, fun k hk => (by have := hl.lt k hk; omega), hl.gl.ext hE⟩, nl := fun k hk => .inr hk }
  rcases hl.blk i Bi hi with hg | hr
  · exact .inl hg
  · refine .inr (hr.ext hE fun b1 s1 z1 hρ1 => ?_)
    obtain ⟨_, _, _, _, hρ2, ho2, _⟩ := hr
    rw [hρ1] at hρ2
    cases hρ2
    exact ⟨ho2, push_get hh (hl.lt b1 ho2)⟩
theorem box_row {X X' : Cr} {w w' : World} {l : Look} {v : V} {x : Value} (hE : Ext X w l X' w') (hv : X.vr w v x) (h1 : v.cells.all V.one = true) :
    Row X' w' { es := [v], sz := v.cells.length, dirty := true } x.cells 0 := by
  intro k e hk
  cases k with
  | zero =>
    simp at hk
    subst hk
    refine ⟨rfl, fun j u hj => ?_⟩
    obtain ⟨y, hy, hvy⟩ := (vr_cells hv h1).2.1 j u hj
    exact ⟨y, by simpa using hy, hvy.ext hE, fun h => by cases h⟩
  | succ k => simp at hk
end Go.Im
