/- Plain laws: how many lines a text has. -/
import Derived.Test.YtfkfbjhegiffhaaGreatDoorPlM
set_option linter.unusedVariables false
set_option linter.unusedSimpArgs false
set_option maxRecDepth 10000
namespace Go.Im
def nl (l : List UInt8) : Nat := l.count 10
theorem nl_app (a b : List UInt8) : nl (a ++ b) = nl a + nl b := List.count_append ..
theorem nl_cons {c : UInt8} (a : List UInt8) (h : c ≠ 10) : nl (c :: a) = nl a := by
  rw [nl, List.count_cons_of_ne (by simpa using h)]; rfl
theorem nl_nil : nl [] = 0 := rfl
theorem dig_ne : ∀ u : Fin 10, (UInt8.ofNat (48 + u.val)) ≠ 10 := by decide
theorem nl_dec : ∀ k u : Nat, nl (decF k u) = 0
  | 0, u => rfl
  | k + 1, u => by
    have d : ∀ v : Nat, v < 10 → nl [UInt8.ofNat (48 + v)] = 0 := fun v hv => by
      rw [nl_cons _ (dig_ne ⟨v, hv⟩)]; rfl
    rw [decF]
    by_cases h : u < 10
    · rw [decide_eq_true h, cond_true]; exact d u h
    · rw [decide_eq_false h, cond_false, nl_app, nl_dec k, d _ (Nat.mod_lt _ (by decide))]
theorem nl_itoa (n : Int) : nl (bl (E.FormatInt n)) = 0 := by
  show nl (itoaF n) = 0
  unfold itoaF
  split
  · exact nl_dec _ _
  · rw [nl_cons _ (by decide)]; exact nl_dec _ _
theorem nl_nm : ∀ b ∈ NL, nl (bl b) = 0 := by decide +kernel
theorem nl_num : ∀ n ∈ NUML, nl (bl (E.FormatInt n)) = 0 := by decide +kernel
theorem nl_bop : ∀ o ∈ BOL, nl (bl o) = 0 := by decide +kernel
theorem nl_uop : ∀ o ∈ UL, nl (bl o) = 0 := by decide +kernel
theorem nl_par (c : Bool) (t : List UInt8) : nl (par c t) = nl t := by
  cases c
  · rfl
  · show nl (40 :: (t ++ [41])) = nl t
    rw [nl_cons _ (by decide), nl_app]; rfl
theorem nl_putE {d : Nat} {e : TreeExpr} (h : WE d e) : nl (putE e) = 0 := by
  induction h with
  | num d n hn => exact nl_num n hn
  | var d s hs => exact nl_nm s hs
  | idx d s k hs hk ih =>
    show nl (bl s ++ 91 :: (putE k ++ [93])) = 0
    rw [nl_app, nl_cons _ (by decide), nl_app, nl_nm s hs, ih]; rfl
  | un d o k ho hk ih =>
    show nl (if o = ⟨#[45]⟩ ∧ k.Kind = 0 ∧ k.N = 0 then [45, 45, 48] else bl o ++ par (decide (k.Kind = 4 ∨ o = ⟨#[45]⟩ ∧ k.Kind = 0 ∧ k.N > 0)) (putE k)) = 0
    split
    · rfl
    · rw [nl_app, nl_par, nl_uop o ho, ih]
  | bin d o x y ho hx hy ihx ihy =>
    show nl (par (decide (levE x < lev o)) (putE x) ++ 32 :: (bl o ++ 32 :: par (decide (levE y ≤ lev o)) (putE y))) = 0
    rw [nl_app, nl_cons _ (by decide), nl_app, nl_cons _ (by decide), nl_par, nl_par, nl_bop o ho, ihx, ihy]
theorem nl_join (sep : List UInt8) (hs : nl sep = 0) : ∀ l : List (List UInt8), (∀ x ∈ l, nl x = 0) → nl (Lib.join l sep) = 0
  | [], _ => rfl
  | [a], h => by
    have := h a (by simp)
    simpa [Lib.join] using this
  | a :: b :: l, h => by
    have h1 := h a (by simp)
    have h2 := nl_join sep hs (b :: l) fun x hx => h x (by simp [hx])
    have e : Lib.join (a :: b :: l) sep = a ++ (sep ++ Lib.join (b :: l) sep) := by simp [Lib.join, List.intercalate, List.intersperse]
    rw [e, nl_app, nl_app, h1, h2, hs]
theorem nl_puts {l : List TreeExpr} (h : ∀ e ∈ l, WE 4 e) : nl (putsT l) = 0 :=
  nl_join _ (by decide) _ fun x hx => by
    obtain ⟨e, he, rfl⟩ := List.mem_map.1 hx
    exact nl_putE (h e he)
theorem nl_plainT {d : Nat} {s : TreeStmt} (h : WS d s) : nl (plainT s.Kind s.Name s.Func s.E) = 0 := by
  have c0 : nl ([32, 61, 32] : List UInt8) = 0 := by decide
  have c1 : nl ([59] : List UInt8) = 0 := by decide
  have c2 : nl ([93, 32, 61, 32] : List UInt8) = 0 := by decide
  have c3 : nl ([41, 59] : List UInt8) = 0 := by decide
  cases h with
  | assign _ t nm e ht hn he =>
    show nl (bl nm ++ ([32, 61, 32] ++ (putsT [e] ++ [59]))) = 0
    rw [nl_app, nl_app, nl_app, nl_nm _ hn, nl_puts (by simpa using he)]; decide
  | store _ t nm i e ht hn hi he =>
    show nl (bl nm ++ (91 :: (putE i ++ ([93, 32, 61, 32] ++ (putE e ++ [59]))))) = 0
    rw [nl_app, nl_cons _ (by decide), nl_app, nl_app, nl_app, nl_nm _ hn, nl_putE hi, nl_putE he]; decide
  | read _ t nm ht hn =>
    show nl (bl nm ++ [32, 61, 32, 114, 101, 97, 100, 40, 41, 59]) = 0
    rw [nl_app, nl_nm _ hn]; decide
  | call _ t nm fn l ht hn hf hl he =>
    show nl (bl nm ++ ([32, 61, 32] ++ (bl fn ++ (40 :: (putsT l ++ [41, 59]))))) = 0
    rw [nl_app, nl_app, nl_app, nl_cons (c := 40) _ (by decide), nl_app, nl_nm _ hn, nl_nm _ hf, nl_puts he]; decide
  | ifs => rfl
  | whil => rfl
  | brk => rfl
  | cont => rfl
  | ret _ t e ht he =>
    show nl ([114, 101, 116, 117, 114, 110, 32] ++ (putsT [e] ++ [59])) = 0
    rw [nl_app, nl_app, nl_puts (by simpa using he)]; decide
  | asrt _ t e ht he =>
    show nl ([97, 115, 115, 101, 114, 116, 40] ++ (putsT [e] ++ [41, 59])) = 0
    rw [nl_app, nl_app, nl_puts (by simpa using he)]; decide
theorem nl_tag (t : Int) : nl (bl (tagB t)) = 0 := by
  unfold tagB
  split
  · have e : bl ({ data := #[64] } ++ E.FormatInt t ++ { data := #[32] }) = [64] ++ bl (E.FormatInt t) ++ [32] := by rw [bl, bl_app, bl_app]
    rw [e, nl_app, nl_app, nl_itoa]; decide
  · rfl
theorem nl_rep : ∀ d : Nat, nl (List.replicate d 9) = 0
  | 0 => rfl
  | d + 1 => by rw [List.replicate_succ, nl_cons _ (by decide), nl_rep d]
theorem nl_lineT (d : Nat) {ps : List ByteArray} (h : ∀ p ∈ ps, nl (bl p) = 0) : nl (lineT d ps) = 1 := by
  have : ∀ l : List ByteArray, (∀ p ∈ l, nl (bl p) = 0) → nl (l.flatMap bl) = 0 := fun l => by
    induction l with
    | nil => intro _; rfl
    | cons a l ih => intro h; rw [List.flatMap_cons, nl_app, h a (by simp), ih fun p hp => h p (by simp [hp])]
  rw [lineT, nl_app, nl_app, nl_rep, this ps h]; rfl
mutual
/-- The lines that close what a statement holds. -/
def endsS : TreeStmt → Nat
  | ⟨k, _, _, _, _, b, c⟩ => (if k = 4 then (bif c.isEmpty then 1 else 2) else if k = 5 then 1 else 0) + endsL b + endsL c
def endsL : List TreeStmt → Nat
  | [] => 0
  | s :: l => endsS s + endsL l
end
theorem nl_txtL {d : Nat} : ∀ l : List TreeStmt, (∀ s ∈ l, nl (txtS d s) = cntS s + endsS s) → nl (txtL d l) = cntL l + endsL l
  | [], _ => rfl
  | s :: l, h => by
    have h1 := nl_txtL l fun x hx => h x (by simp [hx])
    have h2 := h s (by simp)
    simp only [txtL, cntL, endsL, nl_app, h1, h2]; omega
theorem nl_txtS {dd : Nat} {s : TreeStmt} (h : WS dd s) : ∀ d, nl (txtS d s) = cntS s + endsS s := by
  have pl : ∀ {dd : Nat} {s : TreeStmt} (h : WS dd s) (h4 : s.Kind ≠ 4) (h5 : s.Kind ≠ 5) (d : Nat), nl (txtS d s) = 1 := fun {dd s} h h4 h5 d => by
    have e : txtS d s = lineT d [tagB s.Tag, bs (plainT s.Kind s.Name s.Func s.E)] := by
      cases s
      simp only [txtS, stT]
      rw [if_neg h4, if_neg h5]
    rw [e]
    refine nl_lineT d fun p hp => ?_
    simp only [List.mem_cons, List.not_mem_nil, or_false] at hp
    rcases hp with rfl | rfl
    · exact nl_tag _
    · rw [bl, bl_bs]; exact nl_plainT h
  have l1 : ∀ (d : Nat) (l : Array UInt8), nl l.toList = 0 → nl (lineT d [⟨l⟩]) = 1 := fun d l hl => nl_lineT d fun p hp => by
    simp only [List.mem_cons, List.not_mem_nil, or_false] at hp; subst hp; exact hl
  have l4 : ∀ (d : Nat) (t : Int) (e : TreeExpr) (x y : Array UInt8), WE 4 e → nl x.toList = 0 → nl y.toList = 0 → nl (lineT d [tagB t, ⟨x⟩, bs (putsT [e]), ⟨y⟩]) = 1 := fun d t e x y he hx hy => nl_lineT d fun p hp => by
    simp only [List.mem_cons, List.not_mem_nil, or_false] at hp
    rcases hp with rfl | rfl | rfl | rfl
    · exact nl_tag _
    · exact hx
    · rw [bl, bl_bs]; exact nl_puts (by simpa using he)
    · exact hy
  induction h with
  | ifs dd t e b c ht he hb hc wb wc ihb ihc =>
    intro d
    have h1 := nl_txtL (d := d + 1) b fun s hs => ihb s hs (d + 1)
    have h2 := nl_txtL (d := d + 1) c fun s hs => ihc s hs (d + 1)
    simp only [txtS, stT, if_true, nl_app, cntS, endsS, h1]
    rw [l4 _ _ _ _ _ he (by decide) (by decide), l1 _ _ (by decide)]
    cases c with
    | nil => simp only [List.isEmpty_nil, cond_true, nl_nil, cntL, endsL]; omega
    | cons x c =>
      simp only [List.isEmpty_cons, cond_false, nl_app, h2]
      rw [l1 _ _ (by decide)]; omega
  | whil dd t e b ht he hb wb ihb =>
    intro d
    have h1 := nl_txtL (d := d + 1) b fun s hs => ihb s hs (d + 1)
    simp only [txtS, stT, if_neg (show ¬ (5 : Int) = 4 by decide), if_true, nl_app, cntS, endsS, h1, cntL, endsL]
    rw [l4 _ _ _ _ _ he (by decide) (by decide), l1 _ _ (by decide)]; omega
  | assign d2 t nm e ht hn he => intro d; rw [pl (.assign d2 t nm e ht hn he) (by simp) (by simp)]; rfl
  | store d2 t nm i e ht hn hi he => intro d; rw [pl (.store d2 t nm i e ht hn hi he) (by simp) (by simp)]; rfl
  | read d2 t nm ht hn => intro d; rw [pl (.read d2 t nm ht hn) (by simp) (by simp)]; rfl
  | call d2 t nm fn l ht hn hf hl he => intro d; rw [pl (.call d2 t nm fn l ht hn hf hl he) (by simp) (by simp)]; rfl
  | brk d2 t ht => intro d; rw [pl (.brk d2 t ht) (by simp) (by simp)]; rfl
  | cont d2 t ht => intro d; rw [pl (.cont d2 t ht) (by simp) (by simp)]; rfl
  | ret d2 t e ht he => intro d; rw [pl (.ret d2 t e ht he) (by simp) (by simp)]; rfl
  | asrt d2 t e ht he => intro d; rw [pl (.asrt d2 t e ht he) (by simp) (by simp)]; rfl
end Go.Im
