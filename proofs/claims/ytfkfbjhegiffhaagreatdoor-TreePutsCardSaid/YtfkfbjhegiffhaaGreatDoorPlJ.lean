/- Plain laws: what is put of statements is read again as it was. -/
import Derived.Test.YtfkfbjhegiffhaaGreatDoorPlI
import Derived.Test.YtfkfbjhegiffhaaGreatDoorPlM
set_option linter.unusedVariables false
set_option linter.unusedSimpArgs false
set_option maxRecDepth 10000
namespace Go.Im
def decD (w : List UInt8) : Nat := w.foldl (fun a c => a * 10 + (c.toNat - 48)) 0
/-- A tag, and what stands behind it. -/
def rdT (u : List UInt8) : Int × List UInt8 :=
  bif hd (· == 64) u then ((decD ((u.drop 1).takeWhile isD) : Nat), ((u.drop 1).dropWhile isD).drop 1) else (0, u)
/-- Expressions with commas between, up to a bracket. -/
def rdG : Nat → List UInt8 → Option (List TreeExpr × List UInt8)
  | 0, _ => none
  | n + 1, t => bif hd (· == 41) t then some ([], t) else (rdA n 0 t).bind fun x => (rdG n (bif hd (· == 44) x.2 then x.2.drop 2 else x.2)).bind fun y => some (x.1 :: y.1, y.2)
/-- What stands behind a name that is set. -/
def rdN (n : Nat) (t : Int) (w : ByteArray) (q : List UInt8) : Option (TreeStmt × List UInt8) :=
  bif hd (· == 91) q then (rdA n 0 (q.drop 1)).bind fun i => (rdA n 0 (i.2.drop 4)).bind fun e => some (⟨1, t, w, e0, [i.1, e.1], [], []⟩, e.2.drop 2)
  else bif !((q.drop 3).takeWhile isA).isEmpty && hd (· == 40) ((q.drop 3).dropWhile isA) then
    (bif (q.drop 3).takeWhile isA == [114, 101, 97, 100] then some (⟨2, t, w, e0, [], [], []⟩, ((q.drop 3).dropWhile isA).drop 4)
     else (rdG n (((q.drop 3).dropWhile isA).drop 1)).bind fun l => some (⟨3, t, w, wordR (q.drop 3), l.1, [], []⟩, l.2.drop 3))
  else (rdA n 0 (q.drop 3)).bind fun e => some (⟨0, t, w, e0, [e.1], [], []⟩, e.2.drop 2)
mutual
def rdS : Nat → List UInt8 → Option (TreeStmt × List UInt8)
  | 0, _ => none
  | n + 1, u => rdK n (rdT u).1 ((rdT u).2.takeWhile isA) ((rdT u).2.dropWhile isA)
def rdK : Nat → Int → List UInt8 → List UInt8 → Option (TreeStmt × List UInt8)
  | 0, _, _, _ => none
  | n + 1, t, w, q =>
    bif w == [105, 102] then (rdA n 0 (q.drop 2)).bind fun e => (rdB n (e.2.drop 4)).bind fun b =>
      (bif hd (· == 32) (b.2.drop 1) then (rdB n (b.2.drop 9)).bind fun c => some (⟨4, t, e0, e0, [e.1], b.1, c.1⟩, c.2.drop 2)
       else some (⟨4, t, e0, e0, [e.1], b.1, []⟩, b.2.drop 2))
    else bif w == [119, 104, 105, 108, 101] then (rdA n 0 (q.drop 2)).bind fun e => (rdB n (e.2.drop 4)).bind fun b => some (⟨5, t, e0, e0, [e.1], b.1, []⟩, b.2.drop 2)
    else bif w == [98, 114, 101, 97, 107] then some (⟨6, t, e0, e0, [], [], []⟩, q.drop 2)
    else bif w == [99, 111, 110, 116, 105, 110, 117, 101] then some (⟨7, t, e0, e0, [], [], []⟩, q.drop 2)
    else bif w == [114, 101, 116, 117, 114, 110] then (rdA n 0 (q.drop 1)).bind fun e => some (⟨8, t, e0, e0, [e.1], [], []⟩, e.2.drop 2)
    else bif w == [97, 115, 115, 101, 114, 116] then (rdA n 0 (q.drop 1)).bind fun e => some (⟨9, t, e0, e0, [e.1], [], []⟩, e.2.drop 3)
    else rdN n t (bs w) q
/-- Statements up to a brace. -/
def rdB : Nat → List UInt8 → Option (List TreeStmt × List UInt8)
  | 0, _ => none
  | n + 1, t => bif hd (· == 125) (t.dropWhile (· == 9)) then some ([], t.dropWhile (· == 9))
    else (rdS n (t.dropWhile (· == 9))).bind fun s => (rdB n s.2).bind fun l => some (s.1 :: l.1, l.2)
end
theorem decD_app (a : List UInt8) (c : UInt8) : decD (a ++ [c]) = decD a * 10 + (c.toNat - 48) := by simp [decD]
theorem dig_nat (u : Nat) (h : u < 10) : (UInt8.ofNat (48 + u)).toNat = 48 + u := by
  rw [UInt8.toNat_ofNat']; omega
theorem decF_all : ∀ k u : Nat, (∀ c ∈ decF k u, isD c = true) ∧ (u < 10 ^ k → decD (decF k u) = u) ∧ (decF (k + 1) u ≠ [])
  | 0, u => ⟨fun c h => by simp [decF] at h; subst h; rfl, fun h => by simp at h; subst h; rfl, by
      rw [decF]; cases decide (u < 10) <;> simp⟩
  | k + 1, u => by
    obtain ⟨h1, h2, h3⟩ := decF_all k (u / 10)
    have dig : ∀ v : Nat, v < 10 → isD (UInt8.ofNat (48 + v)) = true := fun v hv => by
      unfold isD
      rw [dig_nat v hv, decide_eq_true (by omega), decide_eq_true (by omega)]; rfl
    refine ⟨fun c hc => ?_, fun hu => ?_, by rw [decF]; cases decide (u < 10) <;> simp⟩
    · rw [decF] at hc
      by_cases h : u < 10
      · rw [decide_eq_true h, cond_true] at hc
        simp only [List.mem_cons, List.not_mem_nil, or_false] at hc
        subst hc; exact dig u h
      · rw [decide_eq_false h, cond_false, List.mem_append] at hc
        rcases hc with hc | hc
        · exact h1 c hc
        · simp only [List.mem_cons, List.not_mem_nil, or_false] at hc
          subst hc; exact dig _ (Nat.mod_lt _ (by decide))
    · rw [decF]
      by_cases h : u < 10
      · rw [decide_eq_true h, cond_true]
        simp only [decD, List.foldl]
        rw [dig_nat u h]; omega
      · rw [decide_eq_false h, cond_false, decD_app, h2 (by rw [Nat.pow_succ] at hu; omega), dig_nat _ (Nat.mod_lt _ (by decide))]; omega
/-- A tag is read again. -/
theorem rd_tag {t : Int} (ht : 0 ≤ t ∧ t ≤ 1000000) {r : List UInt8} (hr : hd (· == 64) r = false) : rdT (bl (tagB t) ++ r) = (t, r) := by
  unfold tagB
  by_cases h : t > 0
  · rw [if_pos h]
    obtain ⟨u, rfl⟩ : ∃ u : Nat, t = (u : Int) := ⟨t.toNat, by omega⟩
    have hf : bl (E.FormatInt (u : Int)) = decF 20 u := bl_bs _
    have e : bl ({ data := #[64] } ++ E.FormatInt (u : Int) ++ { data := #[32] }) ++ r = 64 :: (decF 20 u ++ 32 :: r) := by
      rw [bl, bl_app, bl_app]
      show ([64] ++ bl (E.FormatInt (u : Int)) ++ [32]) ++ r = _
      rw [hf]; simp
    rw [e]
    obtain ⟨h1, h2, _⟩ := decF_all 20 u
    obtain ⟨t1, t2⟩ := tw_app (p := isD) (r := 32 :: r) h1 rfl
    unfold rdT
    show (((decD ((decF 20 u ++ 32 :: r).takeWhile isD) : Nat) : Int), ((decF 20 u ++ 32 :: r).dropWhile isD).drop 1) = _
    rw [t1, t2, h2 (by omega)]; rfl
  · rw [if_neg h]
    have h0 : t = 0 := by omega
    subst h0
    show rdT r = (0, r)
    unfold rdT
    rw [hr]; rfl
theorem putsT_one (e : TreeExpr) : putsT [e] = putE e := by simp [putsT, Lib.join, List.intercalate]
theorem putsT_two (a b : TreeExpr) : putsT [a, b] = putE a ++ [44, 32] ++ putE b := by simp [putsT, Lib.join, List.intercalate, List.intersperse]
/-- What is put of an expression does not begin so. -/
theorem hd_putE {d : Nat} {e : TreeExpr} (h : WE d e) {p : UInt8 → Bool} (hp : p 40 = false ∧ p 45 = false ∧ p 126 = false ∧ p 33 = false) (ha : ∀ c, isA c = true → p c = false) (r : List UInt8) : putE e ≠ [] ∧ hd p (putE e ++ r) = false := by
  have nm : ∀ {w r : List UInt8}, w ≠ [] → (∀ c ∈ w, isA c = true) → w ++ r ≠ [] ∧ hd p (w ++ r) = false := fun {w r} h1 h2 => by
    cases w with
    | nil => exact absurd rfl h1
    | cons c w => exact ⟨by simp, ha c (h2 c (by simp))⟩
  induction h generalizing r with
  | num d n hn =>
    show bl (E.FormatInt n) ≠ [] ∧ hd p (bl (E.FormatInt n) ++ r) = false
    by_cases h0 : 0 ≤ n
    · obtain ⟨h1, h2, _⟩ := num_pos n hn h0
      exact ⟨h1, (nm h1 fun c hc => by unfold isA; rw [h2 c hc]; rfl).2⟩
    · obtain ⟨w, hw, _⟩ := num_neg n hn (by omega)
      rw [hw]; exact ⟨by simp, hp.2.1⟩
  | var d s hs =>
    obtain ⟨h1, h2, _⟩ := nm_all s hs
    exact ⟨h1, (nm h1 h2).2⟩
  | idx d s k hs hk ih =>
    obtain ⟨h1, h2, _⟩ := nm_all s hs
    show bl s ++ 91 :: (putE k ++ [93]) ≠ [] ∧ hd p ((bl s ++ 91 :: (putE k ++ [93])) ++ r) = false
    rw [List.append_assoc]
    exact ⟨(nm h1 h2).1, (nm h1 h2).2⟩
  | un d o k ho hk ih =>
    show (if o = ⟨#[45]⟩ ∧ k.Kind = 0 ∧ k.N = 0 then [45, 45, 48] else bl o ++ par (decide (k.Kind = 4 ∨ o = ⟨#[45]⟩ ∧ k.Kind = 0 ∧ k.N > 0)) (putE k)) ≠ [] ∧ hd p ((if o = ⟨#[45]⟩ ∧ k.Kind = 0 ∧ k.N = 0 then [45, 45, 48] else bl o ++ par (decide (k.Kind = 4 ∨ o = ⟨#[45]⟩ ∧ k.Kind = 0 ∧ k.N > 0)) (putE k)) ++ r) = false
    split
    · exact ⟨by simp, hp.2.1⟩
    · simp only [UL, List.mem_cons, List.not_mem_nil, or_false] at ho
      rcases ho with rfl | rfl | rfl
      · exact ⟨by simp [bl], hp.2.1⟩
      · exact ⟨by simp [bl], hp.2.2.1⟩
      · exact ⟨by simp [bl], hp.2.2.2⟩
  | bin d o a b ho ha' hb iha ihb =>
    show par (decide (levE a < lev o)) (putE a) ++ 32 :: (bl o ++ 32 :: par (decide (levE b ≤ lev o)) (putE b)) ≠ [] ∧ hd p ((par (decide (levE a < lev o)) (putE a) ++ 32 :: (bl o ++ 32 :: par (decide (levE b ≤ lev o)) (putE b))) ++ r) = false
    rw [List.append_assoc]
    cases decide (levE a < lev o) with
    | true => exact ⟨by simp [par], hp.1⟩
    | false => exact ⟨by simp [par], (iha _).2⟩
theorem rd_args : ∀ {l : List TreeExpr}, l.length ≤ 2 → (∀ e ∈ l, WE 4 e) → ∀ r : List UInt8, Eu (fun n => rdG n (putsT l ++ 41 :: r)) (l, 41 :: r) := by
  intro l hl hw r
  have nil : Eu (fun n => rdG n (41 :: r)) ([], 41 :: r) := Eu.succ (fun n => rdG.eq_2 ..) (Eu.t rfl (Eu.ret rfl))
  have h41 : ∀ {e : TreeExpr} (x : List UInt8), WE 4 e → hd (· == 41) (putE e ++ x) = false := fun {e} x he => (hd_putE he (p := (· == 41)) (by decide) (fun c hc => by
    cases hb : c == 41 with
    | false => rfl
    | true => rw [eq_of_beq hb] at hc; cases hc) x).2
  have one : ∀ {e : TreeExpr}, WE 4 e → Eu (fun n => rdG n (putE e ++ 41 :: r)) ([e], 41 :: r) := fun {e} he =>
    Eu.succ (fun n => rdG.eq_2 ..) (Eu.f (h41 _ he) (Eu.bd (rd_put he (.inr ⟨41, r, rfl, by decide⟩) rfl) (Eu.bd nil (Eu.ret rfl))))
  match l, hl with
  | [], _ => exact nil
  | [a], _ => rw [putsT_one]; exact one (hw a (by simp))
  | [a, b], _ =>
    have ha := hw a (by simp)
    have e1 : putsT [a, b] ++ 41 :: r = putE a ++ 44 :: 32 :: (putE b ++ 41 :: r) := by rw [putsT_two]; simp
    rw [e1]
    exact Eu.succ (fun n => rdG.eq_2 ..) (Eu.f (h41 _ ha) (Eu.bd (rd_put ha (.inr ⟨44, _, rfl, by decide⟩) rfl) (Eu.bd (one (hw b (by simp))) (Eu.ret rfl))))
theorem nm_key : ∀ b ∈ NL, bl b ≠ [105, 102] ∧ bl b ≠ [119, 104, 105, 108, 101] ∧ bl b ≠ [98, 114, 101, 97, 107] ∧ bl b ≠ [99, 111, 110, 116, 105, 110, 117, 101] ∧ bl b ≠ [114, 101, 116, 117, 114, 110] ∧ bl b ≠ [97, 115, 115, 101, 114, 116] ∧ bl b ≠ [114, 101, 97, 100] := by decide +kernel
/-- What an expression begins with is no name with a bracket behind it. -/
theorem no_call {d : Nat} {e : TreeExpr} (h : WE d e) {r : List UInt8} (hr : Ed r) : (!((putE e ++ r).takeWhile isA).isEmpty && hd (· == 40) ((putE e ++ r).dropWhile isA)) = false := by
  have sh : ∀ {c : UInt8} {w : List UInt8}, isA c = false → (!((c :: w).takeWhile isA).isEmpty && hd (· == 40) ((c :: w).dropWhile isA)) = false := fun {c w} hc => by simp [List.takeWhile, hc]
  have st : ∀ {w x : List UInt8}, (∀ c ∈ w, isA c = true) → hd isA x = false → hd (· == 40) x = false → (!((w ++ x).takeWhile isA).isEmpty && hd (· == 40) ((w ++ x).dropWhile isA)) = false := fun {w x} h1 h2 h3 => by
    rw [(tw_app h1 h2).1, (tw_app h1 h2).2, h3, Bool.and_false]
  have er : ∀ {r : List UInt8}, Ed r → hd isA r = false ∧ hd (· == 40) r = false := fun {r} hr => by
    rcases hr with rfl | ⟨c, r', rfl, hc⟩
    · exact ⟨rfl, rfl⟩
    · simp only [List.mem_cons, List.not_mem_nil, or_false] at hc
      rcases hc with rfl | rfl | rfl | rfl | rfl <;> exact ⟨rfl, rfl⟩
  induction h generalizing r with
  | num d n hn =>
    show (!((bl (E.FormatInt n) ++ r).takeWhile isA).isEmpty && hd (· == 40) ((bl (E.FormatInt n) ++ r).dropWhile isA)) = false
    by_cases h0 : 0 ≤ n
    · obtain ⟨h1, h2, _⟩ := num_pos n hn h0
      exact st (fun c hc => by unfold isA; rw [h2 c hc]; rfl) (er hr).1 (er hr).2
    · obtain ⟨w, hw, _⟩ := num_neg n hn (by omega)
      rw [hw]; exact sh rfl
  | var d s hs => exact st (nm_all s hs).2.1 (er hr).1 (er hr).2
  | idx d s k hs hk ih =>
    show (!(((bl s ++ 91 :: (putE k ++ [93])) ++ r).takeWhile isA).isEmpty && hd (· == 40) (((bl s ++ 91 :: (putE k ++ [93])) ++ r).dropWhile isA)) = false
    rw [List.append_assoc]
    exact st (nm_all s hs).2.1 rfl rfl
  | un d o k ho hk ih =>
    show (!(((if o = ⟨#[45]⟩ ∧ k.Kind = 0 ∧ k.N = 0 then [45, 45, 48] else bl o ++ par (decide (k.Kind = 4 ∨ o = ⟨#[45]⟩ ∧ k.Kind = 0 ∧ k.N > 0)) (putE k)) ++ r).takeWhile isA).isEmpty && hd (· == 40) (((if o = ⟨#[45]⟩ ∧ k.Kind = 0 ∧ k.N = 0 then [45, 45, 48] else bl o ++ par (decide (k.Kind = 4 ∨ o = ⟨#[45]⟩ ∧ k.Kind = 0 ∧ k.N > 0)) (putE k)) ++ r).dropWhile isA)) = false
    split
    · exact sh rfl
    · simp only [UL, List.mem_cons, List.not_mem_nil, or_false] at ho
      rcases ho with rfl | rfl | rfl <;> exact sh rfl
  | bin d o a b ho ha hb iha ihb =>
    show (!(((par (decide (levE a < lev o)) (putE a) ++ 32 :: (bl o ++ 32 :: par (decide (levE b ≤ lev o)) (putE b))) ++ r).takeWhile isA).isEmpty && hd (· == 40) (((par (decide (levE a < lev o)) (putE a) ++ 32 :: (bl o ++ 32 :: par (decide (levE b ≤ lev o)) (putE b))) ++ r).dropWhile isA)) = false
    rw [List.append_assoc]
    cases decide (levE a < lev o) with
    | true => exact sh rfl
    | false => exact iha (.inr ⟨32, _, rfl, by decide⟩)
theorem beq_ne {a b : List UInt8} (h : a ≠ b) : (a == b) = false := beq_false_of_ne h
/-- What stands behind the tabs of a statement. -/
def stC (d : Nat) (s : TreeStmt) : List UInt8 := (txtS d s).drop d
theorem drop_rep (d : Nat) (x : List UInt8) : (List.replicate d 9 ++ x).drop d = x := by
  have := List.drop_left (l₁ := List.replicate d (9 : UInt8)) (l₂ := x)
  rwa [List.length_replicate] at this
theorem tabs (d : Nat) {x : List UInt8} (h : hd (· == 9) x = false) : (List.replicate d 9 ++ x).dropWhile (· == 9) = x :=
  (tw_app (p := (· == 9)) (w := List.replicate d 9) (r := x) (fun c hc => by rw [(List.mem_replicate.1 hc).2]; rfl) h).2
theorem if_eq (d : Nat) (t : Int) (e : TreeExpr) (b c : List TreeStmt) (r : List UInt8) : txtS d ⟨4, t, e0, e0, [e], b, c⟩ ++ r =
    List.replicate d 9 ++ (bl (tagB t) ++ ([105, 102] ++ (32 :: 40 :: (putE e ++ 41 :: 32 :: 123 :: 10 :: (txtL (d + 1) b ++ (List.replicate d 9 ++ 125 :: (bif c.isEmpty then 10 :: r else 32 :: 101 :: 108 :: 115 :: 101 :: 32 :: 123 :: 10 :: (txtL (d + 1) c ++ (List.replicate d 9 ++ 125 :: 10 :: r))))))))) := by
  simp only [txtS, stT, if_true, lineT, putsT_one, List.flatMap_cons, List.flatMap_nil, List.append_nil, bl, bl_bs, List.append_assoc, List.cons_append, List.nil_append]
  cases c.isEmpty <;> simp only [cond_true, cond_false, List.append_assoc, List.cons_append, List.nil_append]
theorem while_eq (d : Nat) (t : Int) (e : TreeExpr) (b : List TreeStmt) (r : List UInt8) : txtS d ⟨5, t, e0, e0, [e], b, []⟩ ++ r =
    List.replicate d 9 ++ (bl (tagB t) ++ ([119, 104, 105, 108, 101] ++ (32 :: 40 :: (putE e ++ 41 :: 32 :: 123 :: 10 :: (txtL (d + 1) b ++ (List.replicate d 9 ++ 125 :: 10 :: r)))))) := by
  simp only [txtS, stT, if_neg (show ¬ (5 : Int) = 4 by decide), if_true, lineT, putsT_one, List.flatMap_cons, List.flatMap_nil, List.append_nil, bl, bl_bs, List.append_assoc, List.cons_append, List.nil_append]
theorem txtS_eq {dd : Nat} {s : TreeStmt} (h : WS dd s) (d : Nat) : ∃ x, txtS d s = List.replicate d 9 ++ (bl (tagB s.Tag) ++ x) ∧ hd isA x = true := by
  have kw : ∀ (l : Array UInt8) (r : List UInt8), hd isA l.toList = true → hd isA (l.toList ++ r) = true := fun l r hl => by
    cases h : l.toList with
    | nil => rw [h] at hl; cases hl
    | cons c w => rw [h] at hl; exact hl
  have nmh : ∀ {b : ByteArray} (r : List UInt8), b ∈ NL → hd isA (bl b ++ r) = true := fun {b} r hb => by
    obtain ⟨h1, h2, _⟩ := nm_all b hb
    rw [hd_app h1]
    cases h : bl b with
    | nil => exact absurd h h1
    | cons c w => exact h2 c (by rw [h]; simp)
  have pl : ∀ {k t : Int} {nm fn : ByteArray} {es : List TreeExpr} {b c : List TreeStmt}, k ≠ 4 → k ≠ 5 → txtS d ⟨k, t, nm, fn, es, b, c⟩ = List.replicate d 9 ++ (bl (tagB t) ++ (plainT k nm fn es ++ [10])) := fun {k t nm fn es b c} h4 h5 => by
    simp only [txtS, stT]
    rw [if_neg h4, if_neg h5, lineT]
    simp only [List.flatMap_cons, List.flatMap_nil, List.append_nil, bl, bl_bs, List.append_assoc]
  cases h with
  | ifs dd t e b c ht he hb hc wb wc =>
    have := if_eq d t e b c []
    rw [List.append_nil] at this
    exact ⟨_, this, rfl⟩
  | whil dd t e b ht he hb wb =>
    have := while_eq d t e b []
    rw [List.append_nil] at this
    exact ⟨_, this, rfl⟩
  | assign _ t nm e ht hn he => exact ⟨_, pl (by decide) (by decide), by show hd isA ((bl nm ++ _) ++ _) = true; rw [List.append_assoc]; exact nmh _ hn⟩
  | store _ t nm i e ht hn hi he => exact ⟨_, pl (by decide) (by decide), by show hd isA ((bl nm ++ _) ++ _) = true; rw [List.append_assoc]; exact nmh _ hn⟩
  | read _ t nm ht hn => exact ⟨_, pl (by decide) (by decide), by show hd isA ((bl nm ++ _) ++ _) = true; rw [List.append_assoc]; exact nmh _ hn⟩
  | call _ t nm fn l ht hn hf hl he => exact ⟨_, pl (by decide) (by decide), by show hd isA ((bl nm ++ _) ++ _) = true; rw [List.append_assoc]; exact nmh _ hn⟩
  | brk _ t ht => exact ⟨_, pl (by decide) (by decide), rfl⟩
  | cont _ t ht => exact ⟨_, pl (by decide) (by decide), rfl⟩
  | ret _ t e ht he => exact ⟨_, pl (by decide) (by decide), rfl⟩
  | asrt _ t e ht he => exact ⟨_, pl (by decide) (by decide), rfl⟩
theorem ne_of {p : UInt8 → Bool} {x : List UInt8} (h : hd isA x = true) (hp : ∀ c, isA c = true → p c = false) : hd p x = false := by
  cases x with
  | nil => rfl
  | cons c w => exact hp c h
theorem isA_ne {v : UInt8} (hv : isA v = false) : ∀ c, isA c = true → (c == v) = false := fun c hc => by
  cases hb : c == v with
  | false => rfl
  | true => rw [eq_of_beq hb, hv] at hc; cases hc
theorem hd_tag {v : UInt8} (h64 : ((64 : UInt8) == v) = false) (hv : isA v = false) (t : Int) {x : List UInt8} (hx : hd isA x = true) : hd (· == v) (bl (tagB t) ++ x) = false := by
  unfold tagB
  split
  · have e : bl ({ data := #[64] } ++ E.FormatInt t ++ { data := #[32] }) ++ x = 64 :: (bl (E.FormatInt t) ++ 32 :: x) := by
      rw [bl, bl_app, bl_app]
      show ([64] ++ bl (E.FormatInt t) ++ [32]) ++ x = _
      simp
    rw [e]; exact h64
  · exact ne_of hx (isA_ne hv)
theorem rd_line {t : Int} (ht : 0 ≤ t ∧ t ≤ 1000000) {x : List UInt8} (hx : hd isA x = true) {d : Nat} {R : TreeStmt × List UInt8} (k : Eu (fun n => rdK n t (x.takeWhile isA) (x.dropWhile isA)) R) :
    Eu (fun n => rdS n ((List.replicate d 9 ++ (bl (tagB t) ++ x)).dropWhile (· == 9))) R := by
  rw [tabs d (hd_tag (by decide) (by decide) t hx)]
  refine Eu.succ (fun n => rdS.eq_2 ..) ?_
  rw [rd_tag ht (ne_of hx (isA_ne (by decide)))]
  exact k
theorem plain_eq {k t : Int} {nm fn : ByteArray} {es : List TreeExpr} {b c : List TreeStmt} (h4 : k ≠ 4) (h5 : k ≠ 5) (d : Nat) (r : List UInt8) : txtS d ⟨k, t, nm, fn, es, b, c⟩ ++ r = List.replicate d 9 ++ (bl (tagB t) ++ (plainT k nm fn es ++ 10 :: r)) := by
  simp only [txtS, stT]
  rw [if_neg h4, if_neg h5, lineT]
  simp only [List.flatMap_cons, List.flatMap_nil, List.append_nil, bl, bl_bs, List.append_assoc, List.cons_append, List.nil_append]
/-- A statement that is read again. -/
def RdS (d : Nat) (s : TreeStmt) : Prop := ∀ r, Eu (fun n => rdS n ((txtS d s ++ r).dropWhile (· == 9))) (s, r)
theorem rd_blk {dd d : Nat} : ∀ {l : List TreeStmt}, (∀ s ∈ l, WS dd s ∧ RdS d s) → ∀ (k : Nat) (r : List UInt8), Eu (fun n => rdB n (txtL d l ++ (List.replicate k 9 ++ 125 :: r))) (l, 125 :: r)
  | [], _, k, r => by
    have e : (txtL d [] ++ (List.replicate k 9 ++ 125 :: r)).dropWhile (· == 9) = 125 :: r := by
      simp only [txtL, List.nil_append]; exact tabs k rfl
    refine Eu.succ (fun n => rdB.eq_2 ..) ?_
    rw [e]
    exact Eu.t rfl (Eu.ret rfl)
  | s :: l, h, k, r => by
    obtain ⟨hs, hr⟩ := h s (by simp)
    have ih := rd_blk (l := l) (fun x hx => h x (by simp [hx])) k r
    have e : txtL d (s :: l) ++ (List.replicate k 9 ++ 125 :: r) = txtS d s ++ (txtL d l ++ (List.replicate k 9 ++ 125 :: r)) := by simp only [txtL, List.append_assoc]
    rw [e]
    refine Eu.succ (fun n => rdB.eq_2 ..) (Eu.f ?_ (Eu.bd (hr _) (Eu.bd ih (Eu.ret rfl))))
    obtain ⟨x, hx, hA⟩ := txtS_eq hs d
    have hA' : hd isA (x ++ (txtL d l ++ (List.replicate k 9 ++ 125 :: r))) = true := by
      cases x with
      | nil => cases hA
      | cons c w => exact hA
    rw [hx]
    simp only [List.append_assoc]
    rw [tabs d (hd_tag (by decide) (by decide) _ hA')]
    exact hd_tag (by decide) (by decide) _ hA'
/-- The key, or the name, that a line begins with. -/
theorem rd_key {t : Int} {w q : List UInt8} {R : TreeStmt × List UInt8} (hw : ∀ c ∈ w, isA c = true) (hq : hd isA q = false) (k : Eu (fun n => rdK n t w q) R) : Eu (fun n => rdK n t ((w ++ q).takeWhile isA) ((w ++ q).dropWhile isA)) R := by
  rw [(tw_app hw hq).1, (tw_app hw hq).2]; exact k
theorem hd_nm {b : ByteArray} (h : b ∈ NL) (r : List UInt8) : hd isA (bl b ++ r) = true := by
  obtain ⟨h1, h2, _⟩ := nm_all b h
  rw [hd_app h1]
  cases hb : bl b with
  | nil => exact absurd hb h1
  | cons c w => exact h2 c (by rw [hb]; simp)
theorem rd_name {t : Int} {nm : ByteArray} (h : nm ∈ NL) {q : List UInt8} {R : TreeStmt × List UInt8} (k : Eu (fun n => rdN n t nm q) R) : Eu (fun n => rdK n t (bl nm) q) R := by
  obtain ⟨k1, k2, k3, k4, k5, k6, _⟩ := nm_key nm h
  refine Eu.succ (fun n => rdK.eq_2 ..) (Eu.f (beq_ne k1) (Eu.f (beq_ne k2) (Eu.f (beq_ne k3) (Eu.f (beq_ne k4) (Eu.f (beq_ne k5) (Eu.f (beq_ne k6) ?_))))))
  rw [bs_bl]; exact k
/-- Statements are read again. -/
theorem rd_stmt {dd : Nat} {s : TreeStmt} (h : WS dd s) : ∀ d, RdS d s := by
  have e41 : ∀ x : List UInt8, Ed (41 :: x) := fun x => .inr ⟨41, x, rfl, by decide⟩
  have e59 : ∀ x : List UInt8, Ed (59 :: x) := fun x => .inr ⟨59, x, rfl, by decide⟩
  have e93 : ∀ x : List UInt8, Ed (93 :: x) := fun x => .inr ⟨93, x, rfl, by decide⟩
  induction h with
  | ifs dd t e b c ht he hb hc wb wc ihb ihc =>
    intro d r
    rw [if_eq]
    refine rd_line ht rfl (rd_key (by decide) rfl (Eu.succ (fun n => rdK.eq_2 ..) (Eu.t rfl (Eu.bd (rd_put he (e41 _) rfl) (Eu.bd (rd_blk (fun x hx => ⟨wb x hx, ihb x hx (d + 1)⟩) d _) ?_)))))
    cases c with
    | nil => exact Eu.f rfl (Eu.ret rfl)
    | cons c0 cs => exact Eu.t rfl (Eu.bd (rd_blk (l := c0 :: cs) (fun x hx => ⟨wc x hx, ihc x hx (d + 1)⟩) d _) (Eu.ret rfl))
  | whil dd t e b ht he hb wb ihb =>
    intro d r
    rw [while_eq]
    exact rd_line ht rfl (rd_key (by decide) rfl (Eu.succ (fun n => rdK.eq_2 ..) (Eu.f rfl (Eu.t rfl (Eu.bd (rd_put he (e41 _) rfl) (Eu.bd (rd_blk (fun x hx => ⟨wb x hx, ihb x hx (d + 1)⟩) d _) (Eu.ret rfl)))))))
  | assign d2 t nm e ht hn he =>
    intro d r
    rw [plain_eq (by decide) (by decide)]
    have ep : plainT 0 nm e0 [e] ++ 10 :: r = bl nm ++ (32 :: 61 :: 32 :: (putE e ++ 59 :: 10 :: r)) := by
      show (bl nm ++ ([32, 61, 32] ++ (putsT [e] ++ [59]))) ++ 10 :: r = _
      rw [putsT_one]; simp
    rw [ep]
    refine rd_line ht (hd_nm hn _) (rd_key (nm_all nm hn).2.1 rfl (rd_name hn ?_))
    refine Eu.eq (fun n => rfl) (Eu.f rfl (Eu.f (no_call he (e59 _)) (Eu.bd (rd_put he (e59 _) rfl) (Eu.ret rfl))))
  | store d2 t nm i e ht hn hi he =>
    intro d r
    rw [plain_eq (by decide) (by decide)]
    have ep : plainT 1 nm e0 [i, e] ++ 10 :: r = bl nm ++ (91 :: (putE i ++ 93 :: 32 :: 61 :: 32 :: (putE e ++ 59 :: 10 :: r))) := by
      show (bl nm ++ (91 :: (putE i ++ ([93, 32, 61, 32] ++ (putE e ++ [59]))))) ++ 10 :: r = _
      simp
    rw [ep]
    refine rd_line ht (hd_nm hn _) (rd_key (nm_all nm hn).2.1 rfl (rd_name hn ?_))
    refine Eu.eq (fun n => rfl) (Eu.t rfl (Eu.bd (rd_put hi (e93 _) rfl) (Eu.bd (rd_put he (e59 _) rfl) (Eu.ret rfl))))
  | read d2 t nm ht hn =>
    intro d r
    rw [plain_eq (by decide) (by decide)]
    have ep : plainT 2 nm e0 [] ++ 10 :: r = bl nm ++ (32 :: 61 :: 32 :: ([114, 101, 97, 100] ++ (40 :: 41 :: 59 :: 10 :: r))) := by
      show (bl nm ++ [32, 61, 32, 114, 101, 97, 100, 40, 41, 59]) ++ 10 :: r = _
      simp
    rw [ep]
    refine rd_line ht (hd_nm hn _) (rd_key (nm_all nm hn).2.1 rfl (rd_name hn ?_))
    exact Eu.eq (fun n => rfl) (Eu.f rfl (Eu.t rfl (Eu.t rfl (Eu.ret rfl))))
  | call d2 t nm fn l ht hn hf hl he =>
    intro d r
    rw [plain_eq (by decide) (by decide)]
    have ep : plainT 3 nm fn l ++ 10 :: r = bl nm ++ (32 :: 61 :: 32 :: (bl fn ++ (40 :: (putsT l ++ 41 :: 59 :: 10 :: r)))) := by
      show (bl nm ++ ([32, 61, 32] ++ (bl fn ++ (40 :: (putsT l ++ [41, 59]))))) ++ 10 :: r = _
      simp
    rw [ep]
    refine rd_line ht (hd_nm hn _) (rd_key (nm_all nm hn).2.1 rfl (rd_name hn ?_))
    obtain ⟨f1, f2, _⟩ := nm_all fn hf
    obtain ⟨t1, t2⟩ := tw_app (r := 40 :: (putsT l ++ 41 :: 59 :: 10 :: r)) f2 rfl
    have e3 : (32 :: 61 :: 32 :: (bl fn ++ (40 :: (putsT l ++ 41 :: 59 :: 10 :: r)))).drop 3 = bl fn ++ (40 :: (putsT l ++ 41 :: 59 :: 10 :: r)) := rfl
    refine Eu.eq (fun n => rfl) (Eu.f rfl ?_)
    rw [e3, wordR, t1, t2, bs_bl]
    refine Eu.t ?_ (Eu.f (beq_ne (nm_key fn hf).2.2.2.2.2.2) (Eu.bd (rd_args hl he _) (Eu.ret rfl)))
    cases hb : bl fn with
    | nil => exact absurd hb f1
    | cons c w => rfl
  | brk d2 t ht =>
    intro d r
    rw [plain_eq (by decide) (by decide)]
    exact rd_line ht rfl (rd_key (w := [98, 114, 101, 97, 107]) (q := 59 :: 10 :: r) (by decide) rfl (Eu.succ (fun n => rdK.eq_2 ..) (Eu.f rfl (Eu.f rfl (Eu.t rfl (Eu.ret rfl))))))
  | cont d2 t ht =>
    intro d r
    rw [plain_eq (by decide) (by decide)]
    exact rd_line ht rfl (rd_key (w := [99, 111, 110, 116, 105, 110, 117, 101]) (q := 59 :: 10 :: r) (by decide) rfl (Eu.succ (fun n => rdK.eq_2 ..) (Eu.f rfl (Eu.f rfl (Eu.f rfl (Eu.t rfl (Eu.ret rfl)))))))
  | ret d2 t e ht he =>
    intro d r
    rw [plain_eq (by decide) (by decide)]
    have ep : plainT 8 e0 e0 [e] ++ 10 :: r = [114, 101, 116, 117, 114, 110] ++ (32 :: (putE e ++ 59 :: 10 :: r)) := by
      show ([114, 101, 116, 117, 114, 110, 32] ++ (putsT [e] ++ [59])) ++ 10 :: r = _
      rw [putsT_one]; simp
    rw [ep]
    exact rd_line ht rfl (rd_key (by decide) rfl (Eu.succ (fun n => rdK.eq_2 ..) (Eu.f rfl (Eu.f rfl (Eu.f rfl (Eu.f rfl (Eu.t rfl (Eu.bd (rd_put he (e59 _) rfl) (Eu.ret rfl)))))))))
  | asrt d2 t e ht he =>
    intro d r
    rw [plain_eq (by decide) (by decide)]
    have ep : plainT 9 e0 e0 [e] ++ 10 :: r = [97, 115, 115, 101, 114, 116] ++ (40 :: (putE e ++ 41 :: 59 :: 10 :: r)) := by
      show ([97, 115, 115, 101, 114, 116, 40] ++ (putsT [e] ++ [41, 59])) ++ 10 :: r = _
      rw [putsT_one]; simp
    rw [ep]
    exact rd_line ht rfl (rd_key (by decide) rfl (Eu.succ (fun n => rdK.eq_2 ..) (Eu.f rfl (Eu.f rfl (Eu.f rfl (Eu.f rfl (Eu.f rfl (Eu.t rfl (Eu.bd (rd_put he (e41 _) rfl) (Eu.ret rfl))))))))))
theorem rd_list {dd d : Nat} {l : List TreeStmt} (h : ∀ s ∈ l, WS dd s) (k : Nat) (r : List UInt8) : Eu (fun n => rdB n (txtL d l ++ (List.replicate k 9 ++ 125 :: r))) (l, 125 :: r) :=
  rd_blk (fun s hs => ⟨h s hs, rd_stmt (h s hs) d⟩) k r
end Go.Im
