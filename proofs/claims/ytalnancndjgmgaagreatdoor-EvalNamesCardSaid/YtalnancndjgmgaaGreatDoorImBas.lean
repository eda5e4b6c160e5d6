/- The ideal machine: what the kit tells of the library's own functions. -/
import Derived.Test.YtalnancndjgmgaaGreatDoorImExt
import Derived.Test.YtalnancndjgmgaaGreatDoorImQu
import Derived.Test.YtalnancndjgmgaaGreatDoorImFix
import Derived.Test.YtalnancndjgmgaaGreatDoorShelf
namespace Go.Im
set_option linter.unusedVariables false
open Go.RowKit
/-- One more function is known, of what it is told. -/
def basOne (n : FuncId) (o : List V → Option V) : Orc := fun f args H => match f == n with
  | true => match H with
    | [] => match o args with
      | some v => some (v, [])
      | none => none
    | _ :: _ => none
  | false => none
def basOr (a b : Orc) : Orc := fun f args H => match a f args H with
  | some r => some r
  | none => b f args H
theorem basOr_ok {P : Program} {a b : Orc} (ha : OrcOk P a) (hb : OrcOk P b) : OrcOk P (basOr a b) := by
  intro f args H v H' h
  unfold basOr at h
  split at h
  · rename_i hr; cases h; exact ha _ _ _ _ _ hr
  · exact hb _ _ _ _ _ h
theorem basOne_ok {P : Program} {n : FuncId} {o : List V → Option V} (ho : ∀ a v, o a = some v → Sim P n a [] v []) : OrcOk P (basOne n o) := by
  intro f args H v H' h
  unfold basOne at h
  split at h
  · rename_i hn
    have hn' : f = n := by simpa using hn
    subst hn'
    split at h
    · split at h
      · rename_i hv; cases h; exact ho _ _ hv
      · cases h
    · cases h
  · cases h
/-- A call whose arguments are scalars, or a slice of texts. -/
theorem sim_sc {P : Program} {f : FuncId} {args : List V} {vals : List Value} {v : V} (hargs : ∀ (X : Cr) (w : World) (xs : Array Value), args.length = xs.size → (∀ (j : Nat) (u : V) (x : Value), args[j]? = some u → xs[j]? = some x → X.vr w u x) → xs = vals.toArray)
    {r : Value} (hv : ∀ (hp : Array Obj) (own : Nat → Prop) (ρ : Rho), VR hp own ρ v r)
    (h : ∀ w, GW w → Calls P f vals.toArray w fun e w' => e = .returned r ∧ Below w.heap.size w w') : Sim P f args [] v [] :=
  sim_of_calls fun X w xs hg hl hx => by
    rw [hargs X w xs hl hx]
    exact (h w hg).mono fun e w' ⟨he, hb⟩ => ⟨r, he, hv, hb⟩
theorem below_of_eq {w w' : World} (h : w' = w) : Below w.heap.size w w' := h ▸ Below.refl _ _
theorem sc1 {X : Cr} {w : World} {a : V} {x : Value} (ha : ∀ y, X.vr w a y → y = x) {xs : Array Value} (hl : [a].length = xs.size) (hx : ∀ (j : Nat) (u : V) (x : Value), [a][j]? = some u → xs[j]? = some x → X.vr w u x) : xs = [x].toArray := by
  obtain ⟨l⟩ := xs
  match l, hl with
  | [y], _ => rw [ha y (hx 0 a y rfl rfl)]
theorem sc2 {X : Cr} {w : World} {a b : V} {x y : Value} (ha : ∀ z, X.vr w a z → z = x) (hb : ∀ z, X.vr w b z → z = y) {xs : Array Value} (hl : [a, b].length = xs.size) (hx : ∀ (j : Nat) (u : V) (x : Value), [a, b][j]? = some u → xs[j]? = some x → X.vr w u x) : xs = [x, y].toArray := by
  obtain ⟨l⟩ := xs
  match l, hl with
  | [z1, z2], _ => rw [ha z1 (hx 0 a z1 rfl rfl), hb z2 (hx 1 b z2 rfl rfl)]
/-- An index of a byte. -/
def idxB : List UInt8 → UInt8 → Int → Int
  | [], _, _ => -1
  | b :: l, c, i => bif b == c then i else idxB l c (i + 1)
theorem idxB_eq : ∀ (l : List UInt8) (c : UInt8) (i : Int), idxB l c i = if Lib.indexByte l c = -1 then -1 else Lib.indexByte l c + i
  | [], c, i => by simp [idxB, Lib.indexByte]
  | b :: l, c, i => by
    have ih := idxB_eq l c (i + 1)
    have hg := Lib.indexByte_ge l c
    have e0 : Lib.indexByte (b :: l) c = if b == c then 0 else if Lib.indexByte l c == -1 then -1 else Lib.indexByte l c + 1 := rfl
    simp only [idxB]
    by_cases hb : (b == c) = true
    · have e1 : Lib.indexByte (b :: l) c = 0 := by rw [e0, if_pos hb]
      rw [e1, hb]; simp
    · rw [Bool.eq_false_iff.2 hb, cond_false, ih]
      by_cases h : Lib.indexByte l c = -1
      · have e1 : Lib.indexByte (b :: l) c = -1 := by rw [e0, if_neg hb, h]; rfl
        rw [e1, h]; rfl
      · have e1 : Lib.indexByte (b :: l) c = Lib.indexByte l c + 1 := by rw [e0, if_neg hb, if_neg (by simpa using h)]
        rw [e1, if_neg h, if_neg (by omega)]
        omega
theorem idxB_lib (l : List UInt8) (c : UInt8) : idxB l c 0 = Lib.indexByte l c := by
  rw [idxB_eq]
  split
  · rename_i h; exact h.symm
  · omega
/-- Digits. -/
def decF : Nat → Nat → List UInt8
  | 0, _ => [48]
  | k + 1, u => bif decide (u < 10) then [UInt8.ofNat (48 + u)] else decF k (u / 10) ++ [UInt8.ofNat (48 + u % 10)]
theorem decF_eq : ∀ (k u : Nat), u < 10 ^ k → decF k u = Lib.decDigits u
  | 0, u, h => by
    have : u = 0 := by simpa using h
    subst this
    rw [Lib.decDigits]
    rfl
  | k + 1, u, h => by
    rw [Lib.decDigits]
    simp only [decF]
    by_cases h10 : u < 10
    · rw [dif_pos h10, decide_eq_true h10, cond_true]
    · rw [dif_neg h10, decide_eq_false h10, cond_false]
      congr 1
      exact decF_eq k (u / 10) (by rw [Nat.pow_succ] at h; omega)
def itoaF (n : Int) : List UInt8 := match n with
  | .ofNat u => decF 20 u
  | .negSucc u => 45 :: decF 20 (u + 1)
theorem itoaF_eq {n : Int} (h0 : -9223372036854775808 ≤ n) (h1 : n ≤ 9223372036854775807) : itoaF n = Lib.itoa n := by
  unfold itoaF Lib.itoa
  split
  · rename_i u
    have h2 : ¬ (Int.ofNat u < 0) := by simp
    rw [if_neg h2, decF_eq]
    · rfl
    · simp at h1; omega
  · rename_i u
    rw [if_pos (Int.negSucc_lt_zero u), decF_eq]
    · rfl
    · have : (Int.negSucc u) = -((u : Int) + 1) := Int.negSucc_eq u
      omega
namespace E
def IndexByte (b : ByteArray) (c : Int) : Option Int := bif inK .i64 (idxB b.data.toList c.toNat.toUInt8 0) then some (idxB b.data.toList c.toNat.toUInt8 0) else none
def HasPrefix (s p : ByteArray) : Bool := p.data.toList.isPrefixOf s.data.toList
def FormatInt (n : Int) : ByteArray := ⟨(itoaF n).toArray⟩
theorem IndexByte_sim {b : ByteArray} {c r : Int} (h : IndexByte b c = some r) (s s' s2 : Bool) : Sim Go.Proofs.Tryz.prog 104 [.str s b, .int s' .u8 c] [] (.int s2 .i64 r) [] := by
  obtain ⟨hk, h⟩ := guard_some h
  cases h
  exact sim_sc (vals := [.string b, .int .u8 c]) (fun X w xs hl hx => sc2 (fun y hy => vr_str hy) (fun y hy => vr_int hy) hl hx) (r := .int .i64 (idxB b.data.toList c.toNat.toUInt8 0)) (fun _ _ _ => .imm _ _ (.int _ _ _ hk)) fun w _ =>
    (Go.Proofs.Tryz.strings_IndexByte b c w).mono fun e w' ⟨he, hw⟩ => ⟨by rw [he, idxB_lib], below_of_eq hw⟩
theorem HasPrefix_sim (s p : ByteArray) (s1 s2 s3 : Bool) : Sim Go.Proofs.Tryz.prog 114 [.str s1 s, .str s2 p] [] (.bool s3 (HasPrefix s p)) [] :=
  sim_sc (vals := [.string s, .string p]) (fun X w xs hl hx => sc2 (fun y hy => vr_str hy) (fun y hy => vr_str hy) hl hx) (r := .bool (HasPrefix s p)) (fun _ _ _ => .imm _ _ (.bool _ _)) fun w _ =>
    (Go.Proofs.Tryz.strings_HasPrefix s p w).mono fun e w' ⟨he, hw⟩ => ⟨he, below_of_eq hw⟩
theorem FormatInt_sim (n : Int) (s s' s2 : Bool) : Sim Go.Proofs.Tryz.prog 96 [.int s .i64 n, .int s' .i64 10] [] (.str s2 (FormatInt n)) [] :=
  Sim.rng fun hr => by
    obtain ⟨⟨h0, h1⟩, _⟩ := hr
    exact sim_sc (vals := [.int .i64 n, .int .i64 10]) (fun X w xs hl hx => sc2 (fun y hy => vr_int hy) (fun y hy => vr_int hy) hl hx) (r := .string (FormatInt n)) (fun _ _ _ => .imm _ _ (.str _ _)) fun w hg =>
      (Go.Proofs.Tryz.strconv_FormatInt_10 n h0 h1 w hg.tab).mono fun e w' ⟨he, k, os, hw⟩ => ⟨by rw [he, FormatInt, itoaF_eq h0 h1], by rw [hw]; exact Lib.below_grow _ _ (Nat.le_refl _) _ _⟩
theorem Itoa_sim (n : Int) (s s2 : Bool) : Sim Go.Proofs.Tryz.prog 154 [.int s .i64 n] [] (.str s2 (FormatInt n)) [] :=
  Sim.rng fun hr => by
    obtain ⟨⟨h0, h1⟩, _⟩ := hr
    exact sim_sc (vals := [.int .i64 n]) (fun X w xs hl hx => sc1 (fun y hy => vr_int hy) hl hx) (r := .string (FormatInt n)) (fun _ _ _ => .imm _ _ (.str _ _)) fun w hg =>
      (Go.Proofs.Tryz.strconv_Itoa n h0 h1 w hg.tab).mono fun e w' ⟨he, k, os, hw⟩ => ⟨by rw [he, FormatInt, itoaF_eq h0 h1], by rw [hw]; exact Lib.below_grow _ _ (Nat.le_refl _) _ _⟩
def strs : List V → Option (List ByteArray)
  | [] => some []
  | .str _ b :: xs => (strs xs).map (b :: ·)
  | _ => none
theorem strs_get : ∀ {xs : List V} {bs : List ByteArray}, strs xs = some bs → xs.length = bs.length ∧ ∀ (j : Nat) (b : ByteArray), bs[j]? = some b → ∃ s, xs[j]? = some (.str s b)
  | [], bs, h => by simp [strs] at h; subst h; exact ⟨rfl, fun j b hj => by simp at hj⟩
  | .str s b :: xs, bs, h => by
    simp only [strs] at h
    obtain ⟨bs', h1, rfl⟩ := Option.map_eq_some_iff.1 h
    obtain ⟨g1, g2⟩ := strs_get h1
    refine ⟨by simp [g1], fun j b' hj => ?_⟩
    cases j with
    | zero => simp at hj; subst hj; exact ⟨s, rfl⟩
    | succ j => simpa using g2 j b' (by simpa using hj)
  | .any :: _, _, h | .opq :: _, _, h | .bool _ _ :: _, _, h | .int _ _ _ :: _, _, h | .nilp :: _, _, h | .nils :: _, _, h | .nilf :: _, _, h | .nili :: _, _, h | .iptr _ _ :: _, _, h | .isl _ _ :: _, _, h | .mptr _ _ _ :: _, _, h | .msl _ _ _ :: _, _, h | .osl _ _ :: _, _, h | .agg _ :: _, _, h | .tup _ :: _, _, h | .fn _ _ _ :: _, _, h | .ifc _ _ :: _, _, h => by simp [strs] at h
theorem strs_map (bs : List ByteArray) : strs (bs.map (.str true)) = some bs := by
  induction bs with
  | nil => rfl
  | cons b bs ih => simp [strs, ih]
def anyS : List V → Bool
  | [] => false
  | .str s _ :: xs => s || anyS xs
  | _ :: _ => true
end E
end Go.Im
