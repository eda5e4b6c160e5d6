/- The ideal machine: a call of what is known in full is run at once; any other call is answered by the oracles. -/
import Derived.Test.YtalnancndjgmgaaGreatDoorImSym
namespace Go.Im
mutual
/-- No symbol is in it. -/
def conV : V → Bool
  | .any => false
  | .bool s _ => !s
  | .int s _ _ => !s
  | .str s _ => !s
  | .isl s xs => !s && conL xs
  | .iptr e _ => conV e
  | .agg cs => conL cs
  | .tup cs => conL cs
  | .fn _ a b => conL a && conL b
  | .ifc _ v => conV v
  | _ => true
def conL : List V → Bool
  | [] => true
  | v :: vs => conV v && conL vs
end
def conB : Option Blk → Bool
  | some b => !b.sym && conL b.es
  | none => true
def conH : Heap → Bool
  | [] => true
  | b :: H => conB b && conH H
def conCall (P : Program) (A : FuncId → Cx) (n : Nat) (bas orc : Orc) : Orc := fun f args H => match (A f).ext with
  | true => orc f (symL args) H
  | false => match conL args && conH H with
    | true => match icall P A (fun _ _ _ _ _ => False) bas n f args H with
      | some r => some r
      | none => orc f (symL args) H
    | false => orc f (symL args) H
theorem conCall_ok {P : Program} (hm : PGood P) {A : FuncId → Cx} {n : Nat} {bas orc : Orc} (hbas : OrcOk P bas) (horc : OrcOk P orc) {f : FuncId} {a : List V} {H : Heap} {v : V} {H' : Heap} (h : conCall P A n bas orc f a H = some (v, H')) : Sim P f a H v H' := by
  have fall : orc f (symL a) H = some (v, H') → Sim P f a H v H' := fun h => (horc f _ H v H' h).args (symL_says a)
  unfold conCall at h
  split at h
  · exact fall h
  · split at h
    · split at h
      · rename_i hr
        cases h
        exact icall_ok hm (fun _ _ _ _ _ h => h.elim) hbas n f a H v H' hr
      · exact fall h
    · exact fall h
def envC (P : Program) (A : FuncId → Cx) (n : Nat) (cx : Cx) (bas orc : Orc) : Env := { P, cx, call := conCall P A n bas orc, sim := Sim P, loop := SimR P, code := SimC P }
theorem envC_ok {P : Program} (hm : PGood P) {A : FuncId → Cx} {n : Nat} {cx : Cx} {bas orc : Orc} (hbas : OrcOk P bas) (horc : OrcOk P orc) : EnvOk (envC P A n cx bas orc) :=
  ⟨hm, fun _ _ _ _ _ h => conCall_ok hm hbas horc h, fun _ _ _ _ _ h => h, fun _ _ _ _ _ _ h => h, fun _ _ _ _ _ _ h => h⟩
end Go.Im
