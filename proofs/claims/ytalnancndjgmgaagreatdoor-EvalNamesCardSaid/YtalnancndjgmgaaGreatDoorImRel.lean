/- The ideal machine: how its values and blocks stand for the model's. -/
import Derived.Test.YtalnancndjgmgaaGreatDoorImDef
import Derived.Laws.AppendOwn
import Derived.Laws.CopyRow
import Derived.Below
import Derived.Test.YtalnancndjgmgaaGreatDoorImGl
namespace Go.Im
inductive IR (h : Array Obj) (own : Nat → Prop) : V → Value → Prop
  | any (x : Value) : IR h own .any x
  | opq (x : Value) (hx : x.oneCell' = true) : IR h own .opq x
  | bool (s b : Bool) : IR h own (.bool s b) (.bool b)
  | int (s : Bool) (k : IntKind) (n : Int) (hn : inK k n = true) : IR h own (.int s k n) (.int k n)
  | str (s : Bool) (b : ByteArray) : IR h own (.str s b) (.string b)
  | nilp : IR h own .nilp (.pointer none)
  | nils : IR h own .nils (.slice none 0 0)
  | nilf : IR h own .nilf .nilFunc
  | nili : IR h own .nili .nilIface
  | isl0 (s : Bool) (a : Option Addr) (cap : Nat) : IR h own (.isl s []) (.slice a 0 cap)
  | isl (s : Bool) (xs : List V) (b o cap sz : Nat) (c : Array Value) (e : TypeId) (f : Nat × Nat) (xv : Nat → Nat → Value) (hcap : xs.length ≤ cap)
      (hown : ¬ own b) (hb : h[b]? = some (.cells c e f)) (hsz : ∀ (k : Nat) (e : V), xs[k]? = some e → e.cells.length = sz)
      (hc : ∀ (k : Nat) (e : V) (j : Nat) (v : V), xs[k]? = some e → e.cells[j]? = some v → c[o + k * sz + j]? = some (xv k j))
      (hr : ∀ (k : Nat) (e : V) (j : Nat) (v : V), xs[k]? = some e → e.cells[j]? = some v → IR h own v (xv k j)) :
      IR h own (.isl s xs) (.slice (some ⟨b, o, none⟩) xs.length cap)
  | iptr (e : V) (off b o : Nat) (c : Array Value) (t : TypeId) (f : Nat × Nat) (xv : Nat → Value) (hown : ¬ own b) (hb : h[b]? = some (.cells c t f))
      (hc : ∀ (j : Nat) (v : V), e.cells[j]? = some v → c[o + j]? = some (xv j))
      (hr : ∀ (j : Nat) (v : V), e.cells[j]? = some v → IR h own v (xv j)) : IR h own (.iptr e off) (.pointer (some ⟨b, o + off, none⟩))
  | agg (cs : List V) (xs : Array Value) (hl : cs.length = xs.size) (hr : ∀ (j : Nat) (v : V) (x : Value), cs[j]? = some v → xs[j]? = some x → IR h own v x) : IR h own (.agg cs) (.agg xs)
  | tup (cs : List V) (xs : Array Value) (hl : cs.length = xs.size) (hr : ∀ (j : Nat) (v : V) (x : Value), cs[j]? = some v → xs[j]? = some x → IR h own v x) : IR h own (.tup cs) (.tuple xs)
  | fn (f : Fn) (az cs : List V) (xs ys : Array Value) (hl : az.length = xs.size) (hr : ∀ (j : Nat) (v : V) (x : Value), az[j]? = some v → xs[j]? = some x → IR h own v x)
      (hl' : cs.length = ys.size) (hr' : ∀ (j : Nat) (v : V) (x : Value), cs[j]? = some v → ys[j]? = some x → IR h own v x) : IR h own (.fn f az cs) (.func f xs ys)
  | ifc (t : TypeId) (v : V) (x : Value) (hr : IR h own v x) : IR h own (.ifc t v) (.iface t x)
/-- r: where a block of the call's own lies; n: the slice that a list of the call's own is. -/
structure Rho where
  r : Nat → Option (Nat × Nat × Nat)
  n : Nat → Option Value
instance : CoeFun Rho (fun _ => Nat → Option (Nat × Nat × Nat)) := ⟨Rho.r⟩
/-- Nothing is known of the number. -/
def Rho.no (ρ : Rho) (id : Nat) : Prop := ρ.r id = none ∧ ρ.n id = none
inductive VR (h : Array Obj) (own : Nat → Prop) (ρ : Rho) : V → Value → Prop
  | imm (v : V) (x : Value) (hi : IR h own v x) : VR h own ρ v x
  | mptr (id i off b s sz : Nat) (hρ : ρ id = some (b, s, sz)) : VR h own ρ (.mptr id i off) (.pointer (some ⟨b, s + i * sz + off, none⟩))
  | msl (id i len cap b s sz o : Nat) (c : Array Value) (e : TypeId) (f : Nat × Nat) (hρ : ρ id = some (b, s, sz)) (hl : len ≤ cap) (ho : cap = 0 ∨ o = s + i * sz)
      (hb : h[b]? = some (.cells c e f)) (hc : cap = 0 ∨ o + cap * sz ≤ c.size) : VR h own ρ (.msl id i len) (.slice (some ⟨b, o, none⟩) len cap)
  | osl (id n cap : Nat) (a : Option Addr) (hn : ρ.n id = some (.slice a n cap)) : VR h own ρ (.osl false id) (.slice a n cap)
  | odp (id n cap : Nat) (a : Option Addr) (hn : ρ.n id = some (.slice a n cap)) : VR h own ρ (.osl true id) (.pointer a)
  | agg (cs : List V) (xs : Array Value) (hl : cs.length = xs.size) (hr : ∀ (j : Nat) (v : V) (x : Value), cs[j]? = some v → xs[j]? = some x → VR h own ρ v x) : VR h own ρ (.agg cs) (.agg xs)
  | tup (cs : List V) (xs : Array Value) (hl : cs.length = xs.size) (hr : ∀ (j : Nat) (v : V) (x : Value), cs[j]? = some v → xs[j]? = some x → VR h own ρ v x) : VR h own ρ (.tup cs) (.tuple xs)
  | fn (f : Fn) (az cs : List V) (xs ys : Array Value) (hl : az.length = xs.size) (hr : ∀ (j : Nat) (v : V) (x : Value), az[j]? = some v → xs[j]? = some x → VR h own ρ v x)
      (hl' : cs.length = ys.size) (hr' : ∀ (j : Nat) (v : V) (x : Value), cs[j]? = some v → ys[j]? = some x → VR h own ρ v x) : VR h own ρ (.fn f az cs) (.func f xs ys)
  | ifc (t : TypeId) (v : V) (x : Value) (hr : VR h own ρ v x) : VR h own ρ (.ifc t v) (.iface t x)
structure Cr where
  own : Nat → Prop
  ρ : Rho
abbrev Cr.vr (X : Cr) (w : World) : V → Value → Prop := VR w.heap X.own X.ρ
def Row (X : Cr) (w : World) (B : Blk) (c : Array Value) (s : Nat) : Prop :=
  ∀ k e, B.es[k]? = some e → e.cells.length = B.sz ∧ ∀ j v, e.cells[j]? = some v → ∃ x, c[s + k * B.sz + j]? = some x ∧ X.vr w v x ∧ (B.sym = true → IR w.heap X.own v x)
/-- A list: its slice; no room is its own but what it has. -/
def LstR (ρ : Rho) (id : Nat) (B : Blk) (b s : Nat) (c : Array Value) (e : TypeId) : Prop :=
  B.lst = true → (∃ cap, ρ.n id = some (.slice (some ⟨b, s, none⟩) B.es.length cap) ∧ 0 < cap ∧ B.es.length ≤ cap ∧ s + cap * B.sz ≤ c.size) ∧ ∀ t, B.lty = some t → e = t
/-- A list that is nil. -/
def GhR (ρ : Rho) (id : Nat) (B : Blk) : Prop := B.lst = true ∧ B.es = [] ∧ ρ.r id = none ∧ ρ.n id = some (.slice none 0 0) ∧ B.ty = none
/-- A block that there is. -/
def BlkR (X : Cr) (w : World) (id : Nat) (B : Blk) : Prop := ∃ (b s : Nat) (c : Array Value) (e : TypeId), X.ρ id = some (b, s, B.sz) ∧ X.own b ∧ w.heap[b]? = some (Obj.cells c e (0, 0)) ∧ Row X w B c s ∧ (∀ t, B.ty = some t → e = t ∧ s = 0 ∧ c.size = B.sz) ∧ LstR X.ρ id B b s c e
/-- The tables stand below all that is the call's own. -/
def Gl (own : Nat → Prop) (w : World) : Prop := ∃ B, (∀ b, own b → B ≤ b) ∧ B ≤ w.heap.size ∧ ∀ w', RowKit.Below B w w' → GW w'
structure RelL (X : Cr) (w : World) (l : Look) : Prop where
  blk : ∀ id B, l id = some B → GhR X.ρ id B ∨ BlkR X w id B
  inj : ∀ i j Bi Bj p q, l i = some Bi → l j = some Bj → X.ρ i = some p → X.ρ j = some q → p.1 = q.1 → i = j
  lt : ∀ b, X.own b → b < w.heap.size
  gl : Gl X.own w
def Cr.live (X : Cr) (l : Look) (b : Nat) : Prop := ∃ id B s z, l id = some B ∧ X.ρ id = some (b, s, z)
structure Ext (X : Cr) (w : World) (l : Look) (X' : Cr) (w' : World) : Prop where
  os : w'.os = w.os
  tape : w'.tape = w.tape
  output : w'.output = w.output
  size : w.heap.size ≤ w'.heap.size
  rho : ∀ id p, X.ρ id = some p → X'.ρ id = some p
  rhon : ∀ id x, X.ρ.n id = some x → X'.ρ.n id = some x
  keep : ∀ b, b < w.heap.size → (¬ X.own b ∨ ¬ X.live l b) → w'.heap[b]? = w.heap[b]?
  own : ∀ b, b < w.heap.size → ¬ X.own b → ¬ X'.own b
  still : ∀ b, X.own b → ¬ X.live l b → X'.own b
  shape : ∀ (b : Nat) (c : Array Value) (e : TypeId) (f : Nat × Nat), w.heap[b]? = some (Obj.cells c e f) → ∃ (c' : Array Value) (f' : Nat × Nat), w'.heap[b]? = some (Obj.cells c' e f') ∧ c'.size = c.size
theorem Gl.here {own : Nat → Prop} {w : World} (h : Gl own w) : GW w := by
  obtain ⟨B, _, _, h3⟩ := h
  exact h3 w (RowKit.Below.refl _ _)
theorem Gl.ext {X X' : Cr} {w w' : World} {l : Look} (h : Gl X.own w) (hE : Ext X w l X' w') : Gl X'.own w' := by
  obtain ⟨B, h1, h2, h3⟩ := h
  refine ⟨B, fun b hb => ?_, Nat.le_trans h2 hE.size, fun w2 hb2 => h3 w2 ?_⟩
  · refine Classical.byContradiction fun hlt => ?_
    exact hE.own b (by omega) (fun ho => hlt (h1 b ho)) hb
  · exact RowKit.Below.trans ⟨hE.os, hE.tape, hE.output, hE.size, fun k hk => hE.keep k (by omega) (.inl fun ho => by have := h1 k ho; omega)⟩ hb2
structure Step (X : Cr) (w : World) (l : Look) (X' : Cr) (w' : World) (l' : Look) : Prop extends Ext X w l X' w' where
  rel : RelL X' w' l'
  nl : ∀ b, X'.live l' b → w.heap.size ≤ b ∨ X.live l b
theorem heap_lt {w : World} {b : Nat} {o : Obj} (h : w.heap[b]? = some o) : b < w.heap.size := (Array.getElem?_eq_some_iff.1 h).1
theorem Step.refl {X : Cr} {w : World} {l : Look} (h : RelL X w l) : Step X w l X w l :=
  ⟨⟨rfl, rfl, rfl, Nat.le_refl _, fun _ _ h => h, fun _ _ h => h, fun _ _ _ => rfl, fun _ _ h => h, fun _ h _ => h, fun _ c _ f h => ⟨c, f, h, rfl⟩⟩, h, fun _ h => .inr h⟩
theorem Step.trans {X X1 X2 : Cr} {w w1 w2 : World} {l l1 l2 : Look} (h0 : RelL X w l) (h : Step X w l X1 w1 l1) (k : Step X1 w1 l1 X2 w2 l2) : Step X w l X2 w2 l2 where
  os := k.os.trans h.os
  tape := k.tape.trans h.tape
  output := k.output.trans h.output
  size := Nat.le_trans h.size k.size
  rho := fun id p hp => k.rho id p (h.rho id p hp)
  rhon := fun id p hp => k.rhon id p (h.rhon id p hp)
  keep := fun b hb hn => by
    rw [← h.keep b hb hn]
    refine k.keep b (Nat.lt_of_lt_of_le hb h.size) ?_
    rcases hn with hn | hn
    · exact .inl (h.own b hb hn)
    · exact .inr fun hl => (h.nl b hl).elim (fun hle => absurd hb (Nat.not_lt.2 hle)) hn
  own := fun b hb hn => k.own b (Nat.lt_of_lt_of_le hb h.size) (h.own b hb hn)
  still := fun b ho hn => k.still b (h.still b ho hn) fun hl => (h.nl b hl).elim (fun hle => absurd (h0.lt b ho) (Nat.not_lt.2 hle)) hn
  shape := fun b c e f hb => by
    obtain ⟨c1, f1, h1, s1⟩ := h.shape b c e f hb
    obtain ⟨c2, f2, h2, s2⟩ := k.shape b c1 e f1 h1
    exact ⟨c2, f2, h2, s2.trans s1⟩
  rel := k.rel
  nl := fun b hb => (k.nl b hb).elim (fun hle => .inl (Nat.le_trans h.size hle)) (h.nl b)
theorem IR.ext {X X' : Cr} {w w' : World} {l : Look} (h : Ext X w l X' w') {v : V} {x : Value} (hv : IR w.heap X.own v x) : IR w'.heap X'.own v x := by
  induction hv with
  | any x => exact .any x
  | opq x hx => exact .opq x hx
  | bool s b => exact .bool s b
  | int s k n hn => exact .int s k n hn
  | str s b => exact .str s b
  | nilp => exact .nilp
  | nils => exact .nils
  | nilf => exact .nilf
  | nili => exact .nili
  | isl0 s a cap => exact .isl0 s a cap
  | isl s xs b o cap sz c e f xv hcap hown hb hsz hc _ ih =>
    exact .isl s xs b o cap sz c e f xv hcap (h.own b (heap_lt hb) hown) ((h.keep b (heap_lt hb) (.inl hown)).trans hb) hsz hc ih
  | iptr e off b o c t f xv hown hb hc _ ih =>
    exact .iptr e off b o c t f xv (h.own b (heap_lt hb) hown) ((h.keep b (heap_lt hb) (.inl hown)).trans hb) hc ih
  | agg cs xs hl _ ih => exact .agg cs xs hl ih
  | tup cs xs hl _ ih => exact .tup cs xs hl ih
  | fn f az cs xs ys hl _ hl' _ ih ih' => exact .fn f az cs xs ys hl ih hl' ih'
  | ifc t v x _ ih => exact .ifc t v x ih
theorem VR.ext {X X' : Cr} {w w' : World} {l : Look} (h : Ext X w l X' w') {v : V} {x : Value} (hv : X.vr w v x) : X'.vr w' v x := by
  induction hv with
  | imm v x hi => exact .imm v x (hi.ext h)
  | mptr id i off b s sz hρ => exact .mptr id i off b s sz (h.rho id _ hρ)
  | msl id i len cap b s sz o c e f hρ hl ho hb hc =>
    obtain ⟨c', f', hb', hs⟩ := h.shape b c e f hb
    exact .msl id i len cap b s sz o c' e f' (h.rho id _ hρ) hl ho hb' (by rw [hs]; exact hc)
  | osl id n cap a hn => exact .osl id n cap a (h.rhon id _ hn)
  | odp id n cap a hn => exact .odp id n cap a (h.rhon id _ hn)
  | agg cs xs hl _ ih => exact .agg cs xs hl ih
  | tup cs xs hl _ ih => exact .tup cs xs hl ih
  | fn f az cs xs ys hl _ hl' _ ih ih' => exact .fn f az cs xs ys hl ih hl' ih'
  | ifc t v x _ ih => exact .ifc t v x ih
theorem Row.ext {X X' : Cr} {w w' : World} {l : Look} (h : Ext X w l X' w') {B : Blk} {c : Array Value} {s : Nat} (hr : Row X w B c s) : Row X' w' B c s := fun k e hk => by
  obtain ⟨h1, h2⟩ := hr k e hk
  refine ⟨h1, fun j v hj => ?_⟩
  obtain ⟨x, hx, hv, hs⟩ := h2 j v hj
  exact ⟨x, hx, hv.ext h, fun h' => (hs h').ext h⟩
theorem RelL.real {X : Cr} {w : World} {l : Look} (hl : RelL X w l) {id : Nat} {B : Blk} (hB : l id = some B) {p : Nat × Nat × Nat} (hρ : X.ρ id = some p) : BlkR X w id B := by
  rcases hl.blk id B hB with h | h
  · rw [h.2.2.1] at hρ; cases hρ
  · exact h
theorem RelL.plain {X : Cr} {w : World} {l : Look} (hl : RelL X w l) {id : Nat} {B : Blk} (hB : l id = some B) (hρ : B.lst = false) : BlkR X w id B := by
  rcases hl.blk id B hB with h | h
  · rw [h.1] at hρ; cases hρ
  · exact h
theorem LstR.mono {ρ ρ' : Rho} {id : Nat} {B : Blk} {b s : Nat} {c : Array Value} {e : TypeId} (h : LstR ρ id B b s c e) (hn : ∀ x, ρ.n id = some x → ρ'.n id = some x) : LstR ρ' id B b s c e := fun hl => by
  obtain ⟨⟨cap, h1, h2⟩, h3⟩ := h hl
  exact ⟨⟨cap, hn _ h1, h2⟩, h3⟩
theorem GhR.mono {ρ ρ' : Rho} {id : Nat} {B : Blk} (h : GhR ρ id B) (hr : ρ'.r id = ρ.r id) (hn : ∀ x, ρ.n id = some x → ρ'.n id = some x) : GhR ρ' id B := ⟨h.1, h.2.1, by rw [hr]; exact h.2.2.1, hn _ h.2.2.2.1, h.2.2.2.2⟩
/-- A block goes on as it was. -/
theorem BlkR.ext {X X' : Cr} {w w' : World} {l : Look} (h : Ext X w l X' w') {id : Nat} {B : Blk} (hr : BlkR X w id B) (ho : ∀ b s z, X.ρ id = some (b, s, z) → X'.own b ∧ w'.heap[b]? = w.heap[b]?) : BlkR X' w' id B := by
  obtain ⟨b, s, c, e, hρ, hown, hb, hrow, hty, hlst⟩ := hr
  obtain ⟨h1, h2⟩ := ho b s _ hρ
  exact ⟨b, s, c, e, h.rho id _ hρ, h1, h2.trans hb, hrow.ext h, hty, hlst.mono fun x => h.rhon id x⟩
end Go.Im
