/- The ideal machine: what a contract of the kit says of a call, as an oracle. -/
import Derived.Test.YtalnancndjgmgaaGreatDoorImCon
import Derived.Below
namespace Go.Im
theorem Gl.below {own : Nat → Prop} {w w' : World} (h : Gl own w) (_ho : ∀ b, own b → b < w.heap.size) (hb : RowKit.Below w.heap.size w w') : Gl own w' := by
  obtain ⟨B, h1, h2, h3⟩ := h
  exact ⟨B, h1, Nat.le_trans h2 hb.size, fun w2 hb2 => h3 w2 (RowKit.Below.trans ⟨hb.os, hb.tape, hb.output, hb.size, fun k hk => hb.block k (by omega)⟩ hb2)⟩
/-- A call that leaves all that was there as it was. -/
theorem sim_of_calls {P : Program} {f : FuncId} {args : List V} {v : V}
    (h : ∀ (X : Cr) (w : World) (xs : Array Value), GW w → args.length = xs.size → (∀ (j : Nat) (u : V) (x : Value), args[j]? = some u → xs[j]? = some x → X.vr w u x) →
      Calls P f xs w fun e w' => ∃ x, e = .returned x ∧ (∀ (hp : Array Obj) (own : Nat → Prop) (ρ : Rho), VR hp own ρ v x) ∧ RowKit.Below w.heap.size w w') : Sim P f args [] v [] := by
  refine ⟨fun j B hj => by simp at hj, fun X w xs hr hd hl hx => (h X w xs hr.gl.here hl hx).mono ?_⟩
  rintro e w' ⟨x, rfl, hv, hb⟩
  refine ⟨X, x, rfl, { os := hb.os, tape := hb.tape, output := hb.output, size := hb.size, rho := fun id p hp => hp, rhon := fun id p hp => hp, keep := fun b hlt _ => hb.block b hlt, own := fun b _ ho => ho, still := fun b ho _ => ho, shape := fun b c e f hc => ⟨c, f, ?_, rfl⟩, rel := ⟨fun id B hB => by simp [lookH] at hB, fun i j Bi Bj p q hi => by simp [lookH] at hi, fun b ho => Nat.lt_of_lt_of_le (hr.lt b ho) hb.size, hr.gl.below (fun b ho => hr.lt b ho) hb⟩, nl := fun b hb' => ?_ }, hv _ _ _, fun id hp => hd id hp⟩
  · rw [hb.block b (heap_lt hc)]; exact hc
  · obtain ⟨id, B, s, z, hB, _⟩ := hb'
    simp [lookH] at hB
/-- The same, of a function of one text and one number (strings.IndexByte and its like). -/
theorem sim_str_u8 {P : Program} {f : FuncId} {s : Bool} {b : ByteArray} {s' : Bool} {n : Int} {k : IntKind} {r : Int} (hk : inK k r = true)
    (h : ∀ w : World, GW w → Calls P f #[.string b, .int .u8 n] w fun e w' => e = .returned (.int k r) ∧ RowKit.Below w.heap.size w w') : Sim P f [.str s b, .int s' .u8 n] [] (.int true k r) [] :=
  sim_of_calls fun X w xs hg hl hx => by
    obtain ⟨l⟩ := xs
    match l, hl with
    | [x, y], _ =>
      have h0 := vr_str (hx 0 _ x rfl rfl)
      have h1 := vr_int (hx 1 _ y rfl rfl)
      subst h0 h1
      exact (h w hg).mono fun e w' ⟨he, hb⟩ => ⟨_, he, fun _ _ _ => .imm _ _ (.int _ _ _ hk), hb⟩
end Go.Im
