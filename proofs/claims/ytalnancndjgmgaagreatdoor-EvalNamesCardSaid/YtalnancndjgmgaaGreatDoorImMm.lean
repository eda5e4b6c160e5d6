/- The ideal machine: calls that were run once are known. -/
import Derived.Test.YtalnancndjgmgaaGreatDoorImBs
namespace Go.Im
mutual
def eqV : V → V → Bool
  | .any, .any => true
  | .opq, .opq => true
  | .bool s b, .bool s' b' => s == s' && b == b'
  | .int s k n, .int s' k' n' => s == s' && decide (k = k') && decide (n = n')
  | .str s b, .str s' b' => s == s' && decide (b.data.toList = b'.data.toList)
  | .nilp, .nilp => true
  | .nils, .nils => true
  | .nilf, .nilf => true
  | .nili, .nili => true
  | .iptr e o, .iptr e' o' => eqV e e' && Nat.beq o o'
  | .isl s xs, .isl s' xs' => s == s' && eqL xs xs'
  | .mptr a b c, .mptr a' b' c' => Nat.beq a a' && Nat.beq b b' && Nat.beq c c'
  | .msl a b c, .msl a' b' c' => Nat.beq a a' && Nat.beq b b' && Nat.beq c c'
  | .osl a b, .osl a' b' => a == a' && Nat.beq b b'
  | .agg xs, .agg xs' => eqL xs xs'
  | .tup xs, .tup xs' => eqL xs xs'
  | .fn (.func f) a b, .fn (.func f') a' b' => Nat.beq f f' && eqL a a' && eqL b b'
  | .ifc t v, .ifc t' v' => Nat.beq t t' && eqV v v'
  | _, _ => false
def eqL : List V → List V → Bool
  | [], [] => true
  | x :: xs, y :: ys => eqV x y && eqL xs ys
  | _, _ => false
end
mutual
theorem eqV_eq : ∀ {a b : V}, eqV a b = true → a = b
  | .any, b, h => by cases b <;> first | rfl | (simp only [eqV] at h; cases h)
  | .opq, b, h => by cases b <;> first | rfl | (simp only [eqV] at h; cases h)
  | .bool s b, c, h => by
    cases c <;> simp only [eqV, Bool.and_eq_true, beq_iff_eq] at h <;> first | (obtain ⟨rfl, rfl⟩ := h; rfl) | cases h
  | .int s k n, c, h => by
    cases c <;> simp only [eqV, Bool.and_eq_true, beq_iff_eq, decide_eq_true_eq] at h <;> first | (obtain ⟨⟨rfl, rfl⟩, rfl⟩ := h; rfl) | cases h
  | .str s b, c, h => by
    cases c <;> simp only [eqV, Bool.and_eq_true, beq_iff_eq, decide_eq_true_eq] at h <;> first
      | (obtain ⟨rfl, h⟩ := h; congr 1; cases b; rename_i x; cases x; congr 1; exact Array.toList_inj.1 h)
      | cases h
  | .nilp, b, h => by cases b <;> first | rfl | (simp only [eqV] at h; cases h)
  | .nils, b, h => by cases b <;> first | rfl | (simp only [eqV] at h; cases h)
  | .nilf, b, h => by cases b <;> first | rfl | (simp only [eqV] at h; cases h)
  | .nili, b, h => by cases b <;> first | rfl | (simp only [eqV] at h; cases h)
  | .iptr e o, c, h => by
    cases c <;> simp only [eqV, Bool.and_eq_true, Nat.beq_eq] at h <;> first | (obtain ⟨h1, rfl⟩ := h; rw [eqV_eq h1]) | cases h
  | .isl s xs, c, h => by
    cases c <;> simp only [eqV, Bool.and_eq_true, beq_iff_eq] at h <;> first | (obtain ⟨rfl, h1⟩ := h; rw [eqL_eq h1]) | cases h
  | .mptr a b d, c, h => by
    cases c <;> simp only [eqV, Bool.and_eq_true, Nat.beq_eq] at h <;> first | (obtain ⟨⟨rfl, rfl⟩, rfl⟩ := h; rfl) | cases h
  | .msl a b d, c, h => by
    cases c <;> simp only [eqV, Bool.and_eq_true, Nat.beq_eq] at h <;> first | (obtain ⟨⟨rfl, rfl⟩, rfl⟩ := h; rfl) | cases h
  | .osl a b, c, h => by
    cases c <;> simp only [eqV, Bool.and_eq_true, Nat.beq_eq, beq_iff_eq] at h <;> first | (obtain ⟨rfl, rfl⟩ := h; rfl) | cases h
  | .agg xs, c, h => by
    cases c <;> simp only [eqV] at h <;> first | (rw [eqL_eq h]) | cases h
  | .tup xs, c, h => by
    cases c <;> simp only [eqV] at h <;> first | (rw [eqL_eq h]) | cases h
  | .fn f a b, .fn f' a' b', h => by
    cases f <;> cases f' <;> simp only [eqV, Bool.and_eq_true, Nat.beq_eq] at h <;> first
      | (obtain ⟨⟨rfl, h1⟩, h2⟩ := h; rw [eqL_eq h1, eqL_eq h2])
      | cases h
  | .fn f a b, .any, h => by cases f <;> (simp only [eqV] at h; cases h)
  | .fn f a b, .opq, h => by cases f <;> (simp only [eqV] at h; cases h)
  | .fn f a b, .bool _ _, h => by cases f <;> (simp only [eqV] at h; cases h)
  | .fn f a b, .int _ _ _, h => by cases f <;> (simp only [eqV] at h; cases h)
  | .fn f a b, .str _ _, h => by cases f <;> (simp only [eqV] at h; cases h)
  | .fn f a b, .nilp, h => by cases f <;> (simp only [eqV] at h; cases h)
  | .fn f a b, .nils, h => by cases f <;> (simp only [eqV] at h; cases h)
  | .fn f a b, .nilf, h => by cases f <;> (simp only [eqV] at h; cases h)
  | .fn f a b, .nili, h => by cases f <;> (simp only [eqV] at h; cases h)
  | .fn f a b, .iptr _ _, h => by cases f <;> (simp only [eqV] at h; cases h)
  | .fn f a b, .isl _ _, h => by cases f <;> (simp only [eqV] at h; cases h)
  | .fn f a b, .mptr _ _ _, h => by cases f <;> (simp only [eqV] at h; cases h)
  | .fn f a b, .msl _ _ _, h => by cases f <;> (simp only [eqV] at h; cases h)
  | .fn f a b, .osl _ _, h => by cases f <;> (simp only [eqV] at h; cases h)
  | .fn f a b, .agg _, h => by cases f <;> (simp only [eqV] at h; cases h)
  | .fn f a b, .tup _, h => by cases f <;> (simp only [eqV] at h; cases h)
  | .fn f a b, .ifc _ _, h => by cases f <;> (simp only [eqV] at h; cases h)
  | .ifc t v, c, h => by
    cases c <;> simp only [eqV, Bool.and_eq_true, Nat.beq_eq] at h <;> first | (obtain ⟨rfl, h1⟩ := h; rw [eqV_eq h1]) | cases h
theorem eqL_eq : ∀ {a b : List V}, eqL a b = true → a = b
  | [], [], _ => rfl
  | [], _ :: _, h => by simp only [eqL] at h; cases h
  | _ :: _, [], h => by simp only [eqL] at h; cases h
  | x :: xs, y :: ys, h => by
    simp only [eqL, Bool.and_eq_true] at h
    rw [eqV_eq h.1, eqL_eq h.2]
end
def eqO (a b : Option Nat) : Bool := match a, b with
  | none, none => true
  | some a, some b => Nat.beq a b
  | _, _ => false
theorem eqO_eq : ∀ {a b : Option Nat}, eqO a b = true → a = b
  | none, none, _ => rfl
  | some a, some b, h => by rw [Nat.beq_eq.mp h]
  | none, some _, h => by cases h
  | some _, none, h => by cases h
def eqB (a b : Blk) : Bool := eqL a.es b.es && Nat.beq a.sz b.sz && a.sym == b.sym && a.dirty == b.dirty && eqO a.ty b.ty && a.lst == b.lst && eqO a.lty b.lty
theorem eqB_eq {a b : Blk} (h : eqB a b = true) : a = b := by
  simp only [eqB, Bool.and_eq_true, beq_iff_eq, Nat.beq_eq] at h
  obtain ⟨⟨⟨⟨⟨⟨h1, h2⟩, h3⟩, h4⟩, h5⟩, h6⟩, h7⟩ := h
  cases a; cases b
  simp only at h1 h2 h3 h4 h5 h6 h7
  rw [eqL_eq h1, h2, h3, h4, eqO_eq h5, h6, eqO_eq h7]
def eqH : Heap → Heap → Bool
  | [], [] => true
  | none :: a, none :: b => eqH a b
  | some x :: a, some y :: b => eqB x y && eqH a b
  | _, _ => false
theorem eqH_eq : ∀ {a b : Heap}, eqH a b = true → a = b
  | [], [], _ => rfl
  | [], _ :: _, h => by simp only [eqH] at h; cases h
  | none :: _, [], h => by simp only [eqH] at h; cases h
  | some _ :: _, [], h => by simp only [eqH] at h; cases h
  | none :: a, none :: b, h => by simp only [eqH] at h; rw [eqH_eq h]
  | none :: a, some _ :: b, h => by simp only [eqH] at h; cases h
  | some _ :: a, none :: b, h => by simp only [eqH] at h; cases h
  | some x :: a, some y :: b, h => by
    simp only [eqH, Bool.and_eq_true] at h
    rw [eqB_eq h.1, eqH_eq h.2]
/-- One more call is known. -/
def memo (g : FuncId) (a : List V) (H : Heap) (v : V) (H' : Heap) (orc : Orc) : Orc := fun f b K => match Nat.beq f g with
  | true => match eqL a b && eqH H K with
    | true => some (v, H')
    | false => orc f b K
  | false => orc f b K
theorem memo_ok {P : Program} {g : FuncId} {a : List V} {H : Heap} {v : V} {H' : Heap} {orc : Orc} (h : Sim P g a H v H') (ho : OrcOk P orc) : OrcOk P (memo g a H v H' orc) := by
  intro f b K u K' hm
  unfold memo at hm
  split at hm
  · rename_i hf
    split at hm
    · rename_i he
      cases hm
      simp only [Bool.and_eq_true] at he
      rw [← eqL_eq he.1, ← eqH_eq he.2, Nat.beq_eq.mp hf]
      exact h
    · exact ho _ _ _ _ _ hm
  · exact ho _ _ _ _ _ hm
theorem memo_run {P : Program} (hm : PGood P) {A : FuncId → Cx} {orc : Orc} (ho : OrcOk P orc) {f : FuncId} {a : List V} {H : Heap} {v : V} {H' : Heap}
    (h : icall P A (fun _ _ _ _ _ => False) orc 300 f a H = some (v, H')) : OrcOk P (memo f a H v H' orc) :=
  memo_ok (icall_ok hm (fun _ _ _ _ _ h => h.elim) ho 300 f a H v H' h) ho
/-- How each function is run: the builder's bytes are a list that grows. -/
def inL (l : List FuncId) (f : FuncId) : Bool := l.any fun g => Nat.beq g f
def clonL : List FuncId := [44, 45]
def cxE (f : FuncId) : Cx := match Nat.beq f 11 with
  | true => { mus := [41, 70], keepRes := true }
  | false => match inL clonL f with
    | true => { mus := [5], keepRes := true }
    | false => match inL [38, 28, 59] f with
      | true => { keep := [59, 60] ++ clonL, keepRes := true }
      | false => {}
def keepL : List FuncId := [130, 141, 150, 151, 155, 157]
def sortF (f : FuncId) : Bool := f == 113 || keepL.contains f
def imA : FuncId → Cx := fun f => match f == 999999 with
  | true => { gro := [14] }
  | false => match sortF f with
    | true => { keep := keepL }
    | false => match f == 31 with | true => { keepRes := true } | false => cxE f
def bsM (l : List UInt8) : ByteArray := ⟨l.toArray⟩
end Go.Im
