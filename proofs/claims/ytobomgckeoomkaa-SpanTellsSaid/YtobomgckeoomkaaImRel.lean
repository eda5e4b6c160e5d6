/- The ideal machine: how its values and blocks stand for the model's. -/
import Derived.Test.YtobomgckeoomkaaImDef
import Derived.Laws.AppendOwn
import Derived.Laws.CopyRow
import Derived.Below
namespace Go.Im
inductive IR (h : Array Obj) (own : Nat → Prop) : V → Value → Prop
  | any (x : Value) : IR h own .any x
  | bool (s b : Bool) : IR h own (.bool s b) (.bool b)
  | int (s : Bool) (k : IntKind) (n : Int) (hn : inK k n = true) : IR h own (.int s k n) (.int k n)
  | str (s : Bool) (b : ByteArray) : IR h own (.str s b) (.string b)
  | nilp : IR h own .nilp (.pointer none)
  | nils : IR h own .nils (.slice none 0 0)
  | nilf : IR h own .nilf .nilFunc
  | nili : IR h own .nili .nilIface
  | isl0 (s : Bool) (a : Option Addr) (cap : Nat) : IR h own (.isl s []) (.slice a 0 cap)
  | isl (s : Bool) (xs : List V) (b o cap sz : Nat) (c : Array Value) (e : TypeId) (f : Nat × Nat) (xv : Nat → Nat → Value) (hcap : xs.length ≤ cap)
      (hown : ¬ own b) (hb : h[b]? = some (.cells c e f)) (hsz : ∀ (k : Nat) (e : V), xs[k]? = some e → e.cells.length = sz)
      (hc : ∀ (k : Nat) (e : V) (j : Nat) (v : V), xs[k]? = some e → e.cells[j]? = some v → c[o + k * sz + j]? = some (xv k j))
      (hr : ∀ (k : Nat) (e : V) (j : Nat) (v : V), xs[k]? = some e → e.cells[j]? = some v → IR h own v (xv k j)) :
      IR h own (.isl s xs) (.slice (some ⟨b, o, none⟩) xs.length cap)
  | iptr (e : V) (off b o : Nat) (c : Array Value) (t : TypeId) (f : Nat × Nat) (xv : Nat → Value) (hown : ¬ own b) (hb : h[b]? = some (.cells c t f))
      (hc : ∀ (j : Nat) (v : V), e.cells[j]? = some v → c[o + j]? = some (xv j))
      (hr : ∀ (j : Nat) (v : V), e.cells[j]? = some v → IR h own v (xv j)) : IR h own (.iptr e off) (.pointer (some ⟨b, o + off, none⟩))
  | agg (cs : List V) (xs : Array Value) (hl : cs.length = xs.size) (hr : ∀ (j : Nat) (v : V) (x : Value), cs[j]? = some v → xs[j]? = some x → IR h own v x) : IR h own (.agg cs) (.agg xs)
  | tup (cs : List V) (xs : Array Value) (hl : cs.length = xs.size) (hr : ∀ (j : Nat) (v : V) (x : Value), cs[j]? = some v → xs[j]? = some x → IR h own v x) : IR h own (.tup cs) (.tuple xs)
  | fn (f : Fn) (as cs : List V) (xs ys : Array Value) (hl : as.length = xs.size) (hr : ∀ (j : Nat) (v : V) (x : Value), as[j]? = some v → xs[j]? = some x → IR h own v x)
      (hl' : cs.length = ys.size) (hr' : ∀ (j : Nat) (v : V) (x : Value), cs[j]? = some v → ys[j]? = some x → IR h own v x) : IR h own (.fn f as cs) (.func f xs ys)
  | ifc (t : TypeId) (v : V) (x : Value) (hr : IR h own v x) : IR h own (.ifc t v) (.iface t x)
abbrev Rho := Nat → Option (Nat × Nat × Nat)
inductive VR (h : Array Obj) (own : Nat → Prop) (ρ : Rho) : V → Value → Prop
  | imm (v : V) (x : Value) (hi : IR h own v x) : VR h own ρ v x
  | mptr (id i off b s sz : Nat) (hρ : ρ id = some (b, s, sz)) : VR h own ρ (.mptr id i off) (.pointer (some ⟨b, s + i * sz + off, none⟩))
  | msl (id i len cap b s sz o : Nat) (c : Array Value) (e : TypeId) (f : Nat × Nat) (hρ : ρ id = some (b, s, sz)) (hl : len ≤ cap) (ho : cap = 0 ∨ o = s + i * sz)
      (hb : h[b]? = some (.cells c e f)) (hc : cap = 0 ∨ o + cap * sz ≤ c.size) : VR h own ρ (.msl id i len) (.slice (some ⟨b, o, none⟩) len cap)
  | agg (cs : List V) (xs : Array Value) (hl : cs.length = xs.size) (hr : ∀ (j : Nat) (v : V) (x : Value), cs[j]? = some v → xs[j]? = some x → VR h own ρ v x) : VR h own ρ (.agg cs) (.agg xs)
  | tup (cs : List V) (xs : Array Value) (hl : cs.length = xs.size) (hr : ∀ (j : Nat) (v : V) (x : Value), cs[j]? = some v → xs[j]? = some x → VR h own ρ v x) : VR h own ρ (.tup cs) (.tuple xs)
  | fn (f : Fn) (as cs : List V) (xs ys : Array Value) (hl : as.length = xs.size) (hr : ∀ (j : Nat) (v : V) (x : Value), as[j]? = some v → xs[j]? = some x → VR h own ρ v x)
      (hl' : cs.length = ys.size) (hr' : ∀ (j : Nat) (v : V) (x : Value), cs[j]? = some v → ys[j]? = some x → VR h own ρ v x) : VR h own ρ (.fn f as cs) (.func f xs ys)
  | ifc (t : TypeId) (v : V) (x : Value) (hr : VR h own ρ v x) : VR h own ρ (.ifc t v) (.iface t x)
structure Cr where
  own : Nat → Prop
  ρ : Rho
abbrev Cr.vr (X : Cr) (w : World) : V → Value → Prop := VR w.heap X.own X.ρ
def Row (X : Cr) (w : World) (B : Blk) (c : Array Value) (s : Nat) : Prop :=
  ∀ k e, B.es[k]? = some e → e.cells.length = B.sz ∧ ∀ j v, e.cells[j]? = some v → ∃ x, c[s + k * B.sz + j]? = some x ∧ X.vr w v x ∧ (B.sym = true → IR w.heap X.own v x)
structure RelL (X : Cr) (w : World) (l : Look) : Prop where
  blk : ∀ id B, l id = some B → ∃ (b s : Nat) (c : Array Value) (e : TypeId), X.ρ id = some (b, s, B.sz) ∧ X.own b ∧ w.heap[b]? = some (Obj.cells c e (0, 0)) ∧ Row X w B c s
  inj : ∀ i j Bi Bj p q, l i = some Bi → l j = some Bj → X.ρ i = some p → X.ρ j = some q → p.1 = q.1 → i = j
  lt : ∀ b, X.own b → b < w.heap.size
def Cr.live (X : Cr) (l : Look) (b : Nat) : Prop := ∃ id B s z, l id = some B ∧ X.ρ id = some (b, s, z)
structure Ext (X : Cr) (w : World) (l : Look) (X' : Cr) (w' : World) : Prop where
  os : w'.os = w.os
  tape : w'.tape = w.tape
  output : w'.output = w.output
  size : w.heap.size ≤ w'.heap.size
  rho : ∀ id p, X.ρ id = some p → X'.ρ id = some p
  keep : ∀ b, b < w.heap.size → (¬ X.own b ∨ ¬ X.live l b) → w'.heap[b]? = w.heap[b]?
  own : ∀ b, b < w.heap.size → ¬ X.own b → ¬ X'.own b
  still : ∀ b, X.own b → ¬ X.live l b → X'.own b
  shape : ∀ (b : Nat) (c : Array Value) (e : TypeId) (f : Nat × Nat), w.heap[b]? = some (Obj.cells c e f) → ∃ c' : Array Value, w'.heap[b]? = some (Obj.cells c' e f) ∧ c'.size = c.size
structure Step (X : Cr) (w : World) (l : Look) (X' : Cr) (w' : World) (l' : Look) : Prop extends Ext X w l X' w' where
  rel : RelL X' w' l'
  nl : ∀ b, X'.live l' b → w.heap.size ≤ b ∨ X.live l b
theorem heap_lt {w : World} {b : Nat} {o : Obj} (h : w.heap[b]? = some o) : b < w.heap.size := (Array.getElem?_eq_some_iff.1 h).1
theorem Step.refl {X : Cr} {w : World} {l : Look} (h : RelL X w l) : Step X w l X w l :=
  ⟨⟨rfl, rfl, rfl, Nat.le_refl _, fun _ _ h => h, fun _ _ _ => rfl, fun _ _ h => h, fun _ h _ => h, fun _ c _ _ h => ⟨c, h, rfl⟩⟩, h, fun _ h => .inr h⟩
theorem Step.trans {X X1 X2 : Cr} {w w1 w2 : World} {l l1 l2 : Look} (h0 : RelL X w l) (h : Step X w l X1 w1 l1) (k : Step X1 w1 l1 X2 w2 l2) : Step X w l X2 w2 l2 where
  os := k.os.trans h.os
  tape := k.tape.trans h.tape
  output := k.output.trans h.output
  size := Nat.le_trans h.size k.size
  rho := fun id p hp => k.rho id p (h.rho id p hp)
  keep := fun b hb hn => by
    rw [← h.keep b hb hn]
    refine k.keep b (Nat.lt_of_lt_of_le hb h.size) ?_
    rcases hn with hn | hn
    · exact .inl (h.own b hb hn)
    · exact .inr fun hl => (h.nl b hl).elim (fun hle => absurd hb (Nat.not_lt.2 hle)) hn
  own := fun b hb hn => k.own b (Nat.lt_of_lt_of_le hb h.size) (h.own b hb hn)
  still := fun b ho hn => k.still b (h.still b ho hn) fun hl => (h.nl b hl).elim (fun hle => absurd (h0.lt b ho) (Nat.not_lt.2 hle)) hn
  shape := fun b c e f hb => by
    obtain ⟨c1, h1, s1⟩ := h.shape b c e f hb
    obtain ⟨c2, h2, s2⟩ := k.shape b c1 e f h1
    exact ⟨c2, h2, s2.trans s1⟩
  rel := k.rel
  nl := fun b hb => (k.nl b hb).elim (fun hle => .inl (Nat.le_trans h.size hle)) (h.nl b)
theorem IR.ext {X X' : Cr} {w w' : World} {l : Look} (h : Ext X w l X' w') {v : V} {x : Value} (hv : IR w.heap X.own v x) : IR w'.heap X'.own v x := by
  induction hv with
  | any x => exact .any x
  | bool s b => exact .bool s b
  | int s k n hn => exact .int s k n hn
  | str s b => exact .str s b
  | nilp => exact .nilp
  | nils => exact .nils
  | nilf => exact .nilf
  | nili => exact .nili
  | isl0 s a cap => exact .isl0 s a cap
  | isl s xs b o cap sz c e f xv hcap hown hb hsz hc _ ih =>
    exact .isl s xs b o cap sz c e f xv hcap (h.own b (heap_lt hb) hown) ((h.keep b (heap_lt hb) (.inl hown)).trans hb) hsz hc ih
  | iptr e off b o c t f xv hown hb hc _ ih =>
    exact .iptr e off b o c t f xv (h.own b (heap_lt hb) hown) ((h.keep b (heap_lt hb) (.inl hown)).trans hb) hc ih
  | agg cs xs hl _ ih => exact .agg cs xs hl ih
  | tup cs xs hl _ ih => exact .tup cs xs hl ih
  | fn f as cs xs ys hl _ hl' _ ih ih' => exact .fn f as cs xs ys hl ih hl' ih'
  | ifc t v x _ ih => exact .ifc t v x ih
theorem VR.ext {X X' : Cr} {w w' : World} {l : Look} (h : Ext X w l X' w') {v : V} {x : Value} (hv : X.vr w v x) : X'.vr w' v x := by
  induction hv with
  | imm v x hi => exact .imm v x (hi.ext h)
  | mptr id i off b s sz hρ => exact .mptr id i off b s sz (h.rho id _ hρ)
  | msl id i len cap b s sz o c e f hρ hl ho hb hc =>
    obtain ⟨c', hb', hs⟩ := h.shape b c e f hb
    exact .msl id i len cap b s sz o c' e f (h.rho id _ hρ) hl ho hb' (by rw [hs]; exact hc)
  | agg cs xs hl _ ih => exact .agg cs xs hl ih
  | tup cs xs hl _ ih => exact .tup cs xs hl ih
  | fn f as cs xs ys hl _ hl' _ ih ih' => exact .fn f as cs xs ys hl ih hl' ih'
  | ifc t v x _ ih => exact .ifc t v x ih
end Go.Im
