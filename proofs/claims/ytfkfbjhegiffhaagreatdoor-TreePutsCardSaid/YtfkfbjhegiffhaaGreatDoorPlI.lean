/- Plain laws: what is put of an expression is read again as it was. -/
import Derived.Test.YtfkfbjhegiffhaaGreatDoorPlA
set_option linter.unusedVariables false
set_option linter.unusedSimpArgs false
set_option maxRecDepth 10000
namespace Go.Im
def isD (c : UInt8) : Bool := decide (48 ≤ c.toNat) && decide (c.toNat ≤ 57)
/-- Digits, and small letters. -/
def isA (c : UInt8) : Bool := isD c || (decide (97 ≤ c.toNat) && decide (c.toNat ≤ 122))
def hd (p : UInt8 → Bool) : List UInt8 → Bool
  | [] => false
  | c :: _ => p c
/-- What digits are. -/
def numR (w : List UInt8) : Int := ((NUML.map fun n => (bl (E.FormatInt n), n)).lookup w).getD 0
def wordR (t : List UInt8) : ByteArray := bs (t.takeWhile isA)
def opR (t : List UInt8) : ByteArray := bs (t.takeWhile (· != 32))
mutual
/-- An operand is read. -/
def rdO : Nat → List UInt8 → Option (TreeExpr × List UInt8)
  | 0, _ => none
  | n + 1, t =>
    bif hd (· == 40) t then (rdA n 0 (t.drop 1)).bind fun x => some (x.1, x.2.drop 1)
    else bif hd (· == 45) t then
      (bif hd isD (t.drop 1) then some (⟨0, e0, numR (45 :: (t.drop 1).takeWhile isD), e0, []⟩, (t.drop 1).dropWhile isD)
       else (rdO n (t.drop 1)).bind fun x => some (⟨3, ⟨#[45]⟩, 0, e0, [x.1]⟩, x.2))
    else bif hd (· == 126) t then (rdO n (t.drop 1)).bind fun x => some (⟨3, ⟨#[126]⟩, 0, e0, [x.1]⟩, x.2)
    else bif hd (· == 33) t then (rdO n (t.drop 1)).bind fun x => some (⟨3, ⟨#[33]⟩, 0, e0, [x.1]⟩, x.2)
    else bif hd isD t then some (⟨0, e0, numR (t.takeWhile isD), e0, []⟩, t.dropWhile isD)
    else bif hd (· == 91) (t.dropWhile isA) then (rdA n 0 ((t.dropWhile isA).drop 1)).bind fun x => some (⟨2, e0, 0, wordR t, [x.1]⟩, x.2.drop 1)
    else some (⟨1, e0, 0, wordR t, []⟩, t.dropWhile isA)
/-- Operands with operations above a level. -/
def rdA : Nat → Int → List UInt8 → Option (TreeExpr × List UInt8)
  | 0, _, _ => none
  | n + 1, m, t => (rdO n t).bind fun x => rdL n m x.1 x.2
def rdL : Nat → Int → TreeExpr → List UInt8 → Option (TreeExpr × List UInt8)
  | 0, _, _, _ => none
  | n + 1, m, x, t =>
    bif hd (· == 32) t && decide (m < lev (opR (t.drop 1))) then (rdA n (lev (opR (t.drop 1))) (((t.drop 1).dropWhile (· != 32)).drop 1)).bind fun y => rdL n m ⟨4, opR (t.drop 1), 0, e0, [x, y.1]⟩ y.2
    else some (x, t)
end
/-- What may stand behind an expression. -/
def Ed (r : List UInt8) : Prop := r = [] ∨ ∃ c r', r = c :: r' ∧ c ∈ [(32 : UInt8), 41, 93, 44, 59]
/-- No tighter operation is next. -/
def Stp (l : Int) (r : List UInt8) : Prop := hd (· == 32) r = true → lev (opR (r.drop 1)) ≤ l
theorem Ed.is {r : List UInt8} (h : Ed r) : hd isA r = false ∧ hd isD r = false ∧ hd (· == 91) r = false := by
  rcases h with rfl | ⟨c, r', rfl, hc⟩
  · exact ⟨rfl, rfl, rfl⟩
  · simp only [List.mem_cons, List.not_mem_nil, or_false] at hc
    rcases hc with rfl | rfl | rfl | rfl | rfl <;> exact ⟨rfl, rfl, rfl⟩
theorem tw_app {p : UInt8 → Bool} : ∀ {w r : List UInt8}, (∀ c ∈ w, p c = true) → hd p r = false → (w ++ r).takeWhile p = w ∧ (w ++ r).dropWhile p = r
  | [], [], _, _ => ⟨rfl, rfl⟩
  | [], c :: r, _, h => by
    have : p c = false := h
    simp [List.takeWhile, List.dropWhile, this]
  | c :: w, r, hw, h => by
    have hc := hw c (by simp)
    obtain ⟨h1, h2⟩ := tw_app (w := w) (r := r) (fun x hx => hw x (by simp [hx])) h
    simp [List.takeWhile, List.dropWhile, hc, h1, h2]
theorem hd_app {p : UInt8 → Bool} {w r : List UInt8} (h : w ≠ []) : hd p (w ++ r) = hd p w := by
  cases w with
  | nil => exact absurd rfl h
  | cons c w => rfl
theorem bs_bl (b : ByteArray) : bs (bl b) = b := ba_ext (by simp [bl_bs])
theorem nm_all : ∀ b ∈ NL, (bl b) ≠ [] ∧ (∀ c ∈ bl b, isA c = true) ∧ hd isD (bl b) = false ∧ hd (· == 40) (bl b) = false ∧ hd (· == 45) (bl b) = false ∧ hd (· == 126) (bl b) = false ∧ hd (· == 33) (bl b) = false := by decide +kernel
theorem bop_all : ∀ o ∈ BOL, (∀ c ∈ bl o, (c != 32) = true) ∧ 0 < lev o ∧ lev o ≤ 10 := by decide +kernel
theorem num_pos : ∀ n ∈ NUML, 0 ≤ n → (bl (E.FormatInt n)) ≠ [] ∧ (∀ c ∈ bl (E.FormatInt n), isD c = true) ∧ numR (bl (E.FormatInt n)) = n := by decide +kernel
theorem num_neg : ∀ n ∈ NUML, n < 0 → ∃ w, bl (E.FormatInt n) = 45 :: w ∧ w ≠ [] ∧ (∀ c ∈ w, isD c = true) ∧ numR (45 :: w) = n := by
  intro n hn h
  have : ∀ n ∈ NUML, n < 0 → bl (E.FormatInt n) = 45 :: (bl (E.FormatInt n)).drop 1 ∧ (bl (E.FormatInt n)).drop 1 ≠ [] ∧ (∀ c ∈ (bl (E.FormatInt n)).drop 1, isD c = true) ∧ numR (45 :: (bl (E.FormatInt n)).drop 1) = n := by decide +kernel
  exact ⟨_, this n hn h⟩
theorem levE_pos {d : Nat} {e : TreeExpr} (h : WE d e) : 0 < levE e := by
  cases h with
  | bin d o a b ho ha hb => exact (bop_all o ho).2.1
  | _ => exact (show (0 : Int) < 11 by decide)
theorem hd_dig {w r : List UInt8} (hne : w ≠ []) (h : ∀ c ∈ w, isD c = true) : hd isD (w ++ r) = true ∧ hd (· == 40) (w ++ r) = false ∧ hd (· == 45) (w ++ r) = false ∧ hd (· == 126) (w ++ r) = false ∧ hd (· == 33) (w ++ r) = false := by
  cases w with
  | nil => exact absurd rfl hne
  | cons c w =>
    have hc := h c (by simp)
    have ne : ∀ x : UInt8, isD x = false → (c == x) = false := fun x hx => by
      cases hb : c == x with
      | false => rfl
      | true => rw [eq_of_beq hb, hx] at hc; cases hc
    exact ⟨hc, ne 40 (by decide), ne 45 (by decide), ne 126 (by decide), ne 33 (by decide)⟩
theorem numR0 : numR [45, 48] = 0 := by decide +kernel
/-- How what is put of an operand begins: with no digit but where it is a number. -/
theorem hd_put {d : Nat} {k : TreeExpr} (h : WE d k) (hn : ¬ (k.Kind = 0 ∧ 0 ≤ k.N)) (h4 : k.Kind ≠ 4) (r : List UInt8) : hd isD (putE k ++ r) = false := by
  cases h with
  | num d n hm =>
    have hlt : n < 0 := by have : ¬ 0 ≤ n := fun h => hn ⟨rfl, h⟩; omega
    obtain ⟨w, hw, _⟩ := num_neg n hm hlt
    show hd isD (bl (E.FormatInt n) ++ r) = false
    rw [hw]; rfl
  | var d nm hm =>
    obtain ⟨h1, _, h2, _⟩ := nm_all nm hm
    show hd isD (bl nm ++ r) = false
    rw [hd_app h1]; exact h2
  | idx d nm k hm hk =>
    obtain ⟨h1, _, h2, _⟩ := nm_all nm hm
    show hd isD ((bl nm ++ 91 :: (putE k ++ [93])) ++ r) = false
    rw [List.append_assoc, hd_app h1]; exact h2
  | un d o k ho hk =>
    show hd isD ((if o = ⟨#[45]⟩ ∧ k.Kind = 0 ∧ k.N = 0 then [45, 45, 48] else bl o ++ par (decide (k.Kind = 4 ∨ o = ⟨#[45]⟩ ∧ k.Kind = 0 ∧ k.N > 0)) (putE k)) ++ r) = false
    split
    · rfl
    · simp only [UL, List.mem_cons, List.not_mem_nil, or_false] at ho
      rcases ho with rfl | rfl | rfl <;> rfl
  | bin => exact absurd rfl h4
theorem rd_paren {e : TreeExpr} {r : List UInt8} (h : Eu (fun n => rdA n 0 (putE e ++ 41 :: r)) (e, 41 :: r)) : Eu (fun n => rdO n (par true (putE e) ++ r)) (e, r) := by
  have e1 : par true (putE e) ++ r = 40 :: (putE e ++ 41 :: r) := by simp [par]
  rw [e1]
  exact Eu.succ (fun n => rdO.eq_2 ..) (Eu.t rfl (Eu.bd h (Eu.ret rfl)))
theorem rd_stop {m : Int} {e : TreeExpr} {r : List UInt8} (h : Stp m r) : Eu (fun n => rdL n m e r) (e, r) := by
  refine Eu.succ (fun n => rdL.eq_2 ..) (Eu.f ?_ (Eu.ret rfl))
  cases h32 : hd (· == 32) r with
  | false => rfl
  | true => rw [Bool.true_and]; have := h h32; exact decide_eq_false (by omega)
/-- An expression, and an operand, are read again. -/
theorem rd_expr {d : Nat} {e : TreeExpr} (h : WE d e) :
    (∀ (m : Int) (r : List UInt8) (R : TreeExpr × List UInt8), m < levE e → Ed r → Stp (levE e) r → Eu (fun n => rdL n m e r) R → Eu (fun n => rdA n m (putE e ++ r)) R) ∧
    (∀ (c : Bool) (r : List UInt8), (c = true ∨ e.Kind ≠ 4) → Ed r → Eu (fun n => rdO n (par c (putE e) ++ r)) (e, r)) := by
  -- an operand that is no operation of two
  have plain : ∀ {d : Nat} {e : TreeExpr}, WE d e → e.Kind ≠ 4 → (∀ r, Ed r → Eu (fun n => rdO n (putE e ++ r)) (e, r)) →
      (∀ (m : Int) (r : List UInt8) (R : TreeExpr × List UInt8), m < levE e → Ed r → Stp (levE e) r → Eu (fun n => rdL n m e r) R → Eu (fun n => rdA n m (putE e ++ r)) R) ∧
      (∀ (c : Bool) (r : List UInt8), (c = true ∨ e.Kind ≠ 4) → Ed r → Eu (fun n => rdO n (par c (putE e) ++ r)) (e, r)) := fun {d e} h h4 ho => by
    have hA : ∀ (m : Int) (r : List UInt8) (R : TreeExpr × List UInt8), m < levE e → Ed r → Stp (levE e) r → Eu (fun n => rdL n m e r) R → Eu (fun n => rdA n m (putE e ++ r)) R :=
      fun m r R _ hr _ hL => Eu.succ (fun n => rdA.eq_2 ..) (Eu.bd (ho r hr) hL)
    refine ⟨hA, fun c r _ hr => ?_⟩
    cases c with
    | false => exact ho r hr
    | true => exact rd_paren (hA 0 _ _ (levE_pos h) (.inr ⟨41, r, rfl, by decide⟩) (fun h => by cases h) (rd_stop fun h => by cases h))
  induction h with
  | num d n hn =>
    refine plain (.num d n hn) (show (0 : Int) ≠ 4 by decide) fun r hr => ?_
    show Eu (fun k => rdO k (bl (E.FormatInt n) ++ r)) _
    obtain ⟨e1, e2, e3⟩ := hr.is
    by_cases h0 : 0 ≤ n
    · obtain ⟨h1, h2, h3⟩ := num_pos n hn h0
      obtain ⟨d1, d2, d3, d4, d5⟩ := hd_dig (r := r) h1 h2
      obtain ⟨t1, t2⟩ := tw_app h2 e2
      exact Eu.succ (fun n => rdO.eq_2 ..) (Eu.f d2 (Eu.f d3 (Eu.f d4 (Eu.f d5 (Eu.t d1 (Eu.ret (by rw [t1, t2, h3])))))))
    · obtain ⟨w, hw, h1, h2, h3⟩ := num_neg n hn (by omega)
      rw [hw]
      obtain ⟨d1, _⟩ := hd_dig (r := r) h1 h2
      obtain ⟨t1, t2⟩ := tw_app h2 e2
      refine Eu.succ (fun n => rdO.eq_2 ..) (Eu.f rfl (Eu.t rfl (Eu.t d1 (Eu.ret ?_))))
      show (_, _) = _
      rw [show (45 :: w ++ r).drop 1 = w ++ r from rfl, t1, t2, h3]
  | var d nm hm =>
    refine plain (.var d nm hm) (show (1 : Int) ≠ 4 by decide) fun r hr => ?_
    show Eu (fun k => rdO k (bl nm ++ r)) _
    obtain ⟨e1, e2, e3⟩ := hr.is
    obtain ⟨h1, h2, h3, h4, h5, h6, h7⟩ := nm_all nm hm
    obtain ⟨t1, t2⟩ := tw_app h2 e1
    refine Eu.succ (fun n => rdO.eq_2 ..) (Eu.f (by rw [hd_app h1]; exact h4) (Eu.f (by rw [hd_app h1]; exact h5) (Eu.f (by rw [hd_app h1]; exact h6) (Eu.f (by rw [hd_app h1]; exact h7) (Eu.f (by rw [hd_app h1]; exact h3) (Eu.f (by rw [t2]; exact e3) (Eu.ret ?_)))))))
    rw [wordR, t1, t2, bs_bl]
  | idx d nm k hm hk ih =>
    refine plain (.idx d nm k hm hk) (show (2 : Int) ≠ 4 by decide) fun r hr => ?_
    have hp : putE ⟨2, e0, 0, nm, [k]⟩ ++ r = bl nm ++ (91 :: (putE k ++ 93 :: r)) := by
      show (bl nm ++ 91 :: (putE k ++ [93])) ++ r = _
      simp
    rw [hp]
    obtain ⟨h1, h2, h3, h4, h5, h6, h7⟩ := nm_all nm hm
    obtain ⟨t1, t2⟩ := tw_app (r := 91 :: (putE k ++ 93 :: r)) h2 rfl
    refine Eu.succ (fun n => rdO.eq_2 ..) (Eu.f (by rw [hd_app h1]; exact h4) (Eu.f (by rw [hd_app h1]; exact h5) (Eu.f (by rw [hd_app h1]; exact h6) (Eu.f (by rw [hd_app h1]; exact h7) (Eu.f (by rw [hd_app h1]; exact h3) (Eu.t (by rw [t2]; rfl) ?_))))))
    rw [wordR, t1, t2, bs_bl]
    exact Eu.bd (ih.1 0 (93 :: r) (k, 93 :: r) (levE_pos hk) (.inr ⟨93, r, rfl, by decide⟩) (fun h => by cases h) (rd_stop fun h => by cases h)) (Eu.ret rfl)
  | un d o k ho hk ih =>
    refine plain (.un d o k ho hk) (show (3 : Int) ≠ 4 by decide) fun r hr => ?_
    have hp : putE ⟨3, o, 0, e0, [k]⟩ ++ r = (if o = ⟨#[45]⟩ ∧ k.Kind = 0 ∧ k.N = 0 then [45, 45, 48] else bl o ++ par (decide (k.Kind = 4 ∨ o = ⟨#[45]⟩ ∧ k.Kind = 0 ∧ k.N > 0)) (putE k)) ++ r := rfl
    rw [hp]
    obtain ⟨e1, e2, e3⟩ := hr.is
    by_cases hz : o = ⟨#[45]⟩ ∧ k.Kind = 0 ∧ k.N = 0
    · rw [if_pos hz]
      obtain ⟨rfl, hk0, hkn⟩ := hz
      have hke : k = ⟨0, e0, 0, e0, []⟩ := by
        cases hk with
        | num d n hn => simp only at hkn; subst hkn; rfl
        | _ => cases hk0
      subst hke
      obtain ⟨t1, t2⟩ := tw_app (p := isD) (w := [48]) (r := r) (by decide) e2
      refine Eu.succ (fun n => rdO.eq_2 ..) (Eu.f rfl (Eu.t rfl (Eu.f rfl (Eu.bd (a := (⟨0, e0, 0, e0, []⟩, r)) (Eu.succ (fun n => rdO.eq_2 ..) (Eu.f rfl (Eu.t rfl (Eu.t rfl (Eu.ret ?_))))) (Eu.ret rfl)))))
      have t3 : (List.drop 1 (List.drop 1 ([45, 45, 48] ++ r))) = [48] ++ r := rfl
      rw [t3, t1, t2]
      rw [numR0]
    · rw [if_neg hz, List.append_assoc]
      have hsub := ih.2 (decide (k.Kind = 4 ∨ o = ⟨#[45]⟩ ∧ k.Kind = 0 ∧ k.N > 0)) r (by
        by_cases h4 : k.Kind = 4
        · left; simp [h4]
        · right; exact h4) hr
      have ho' := ho
      simp only [UL, List.mem_cons, List.not_mem_nil, or_false] at ho'
      rcases ho' with rfl | rfl | rfl
      · have hnd : hd isD (par (decide (k.Kind = 4 ∨ (⟨#[45]⟩ : ByteArray) = ⟨#[45]⟩ ∧ k.Kind = 0 ∧ k.N > 0)) (putE k) ++ r) = false := by
          by_cases hc : k.Kind = 4 ∨ (⟨#[45]⟩ : ByteArray) = ⟨#[45]⟩ ∧ k.Kind = 0 ∧ k.N > 0
          · rw [decide_eq_true hc]; rfl
          · rw [decide_eq_false hc]
            refine hd_put hk (fun h => ?_) (fun h => hc (.inl h)) r
            have h0 : ¬ k.N > 0 := fun hh => hc (.inr ⟨rfl, h.1, hh⟩)
            exact hz ⟨rfl, h.1, by omega⟩
        exact Eu.succ (fun n => rdO.eq_2 ..) (Eu.f rfl (Eu.t rfl (Eu.f hnd (Eu.bd hsub (Eu.ret rfl)))))
      · exact Eu.succ (fun n => rdO.eq_2 ..) (Eu.f rfl (Eu.f rfl (Eu.t rfl (Eu.bd hsub (Eu.ret rfl)))))
      · exact Eu.succ (fun n => rdO.eq_2 ..) (Eu.f rfl (Eu.f rfl (Eu.f rfl (Eu.t rfl (Eu.bd hsub (Eu.ret rfl))))))
  | bin d o a b ho ha hb iha ihb =>
    obtain ⟨o1, o2, o3⟩ := bop_all o ho
    have hA : ∀ (m : Int) (r : List UInt8) (R : TreeExpr × List UInt8), m < lev o → Ed r → Stp (lev o) r → Eu (fun n => rdL n m ⟨4, o, 0, e0, [a, b]⟩ r) R → Eu (fun n => rdA n m (putE ⟨4, o, 0, e0, [a, b]⟩ ++ r)) R := fun m r R hm hr hs hL => by
      have hp : putE ⟨4, o, 0, e0, [a, b]⟩ ++ r = par (decide (levE a < lev o)) (putE a) ++ 32 :: (bl o ++ 32 :: (par (decide (levE b ≤ lev o)) (putE b) ++ r)) := by
        show (par (decide (levE a < lev o)) (putE a) ++ 32 :: (bl o ++ 32 :: par (decide (levE b ≤ lev o)) (putE b))) ++ r = _
        simp
      rw [hp]
      have hT : Ed (32 :: (bl o ++ 32 :: (par (decide (levE b ≤ lev o)) (putE b) ++ r))) := .inr ⟨32, _, rfl, by decide⟩
      obtain ⟨t1, t2⟩ := tw_app (p := (· != 32)) (w := bl o) (r := 32 :: (par (decide (levE b ≤ lev o)) (putE b) ++ r)) o1 rfl
      have hop : opR (bl o ++ 32 :: (par (decide (levE b ≤ lev o)) (putE b) ++ r)) = o := by rw [opR, t1, bs_bl]
      have hb' : Eu (fun n => rdA n (lev o) (par (decide (levE b ≤ lev o)) (putE b) ++ r)) (b, r) := by
        by_cases hc : levE b ≤ lev o
        · rw [decide_eq_true hc]
          exact Eu.succ (fun n => rdA.eq_2 ..) (Eu.bd (ihb.2 true r (.inl rfl) hr) (rd_stop hs))
        · rw [decide_eq_false hc]
          exact ihb.1 (lev o) r _ (by omega) hr (fun h => by have := hs h; omega) (rd_stop hs)
      have hLa : Eu (fun n => rdL n m a (32 :: (bl o ++ 32 :: (par (decide (levE b ≤ lev o)) (putE b) ++ r)))) R := by
        refine Eu.succ (fun n => rdL.eq_2 ..) (Eu.t ?_ ?_)
        · show (true && decide (m < lev (opR (bl o ++ 32 :: (par (decide (levE b ≤ lev o)) (putE b) ++ r))))) = true
          rw [hop, decide_eq_true hm]; rfl
        · show Eu (fun n => (rdA n (lev (opR (bl o ++ 32 :: (par (decide (levE b ≤ lev o)) (putE b) ++ r)))) (((bl o ++ 32 :: (par (decide (levE b ≤ lev o)) (putE b) ++ r)).dropWhile (· != 32)).drop 1)).bind fun y => rdL n m ⟨4, opR (bl o ++ 32 :: (par (decide (levE b ≤ lev o)) (putE b) ++ r)), 0, e0, [a, y.1]⟩ y.2) R
          rw [hop, t2]
          exact Eu.bd hb' hL
      by_cases hc : levE a < lev o
      · rw [decide_eq_true hc]
        exact Eu.succ (fun n => rdA.eq_2 ..) (Eu.bd (iha.2 true _ (.inl rfl) hT) hLa)
      · rw [decide_eq_false hc]
        refine iha.1 m _ R (by omega) hT (fun _ => ?_) hLa
        show lev (opR (bl o ++ 32 :: (par (decide (levE b ≤ lev o)) (putE b) ++ r))) ≤ levE a
        rw [hop]; omega
    refine ⟨hA, fun c r hc hr => ?_⟩
    rcases hc with rfl | hc
    · exact rd_paren (hA 0 _ _ o2 (.inr ⟨41, r, rfl, by decide⟩) (fun h => by cases h) (rd_stop fun h => by cases h))
    · exact absurd rfl hc
theorem rd_put {d : Nat} {e : TreeExpr} (h : WE d e) {r : List UInt8} (hr : Ed r) (h32 : hd (· == 32) r = false) : Eu (fun n => rdA n 0 (putE e ++ r)) (e, r) :=
  (rd_expr h).1 0 r _ (levE_pos h) hr (fun h => by rw [h32] at h; cases h) (rd_stop fun h => by rw [h32] at h; cases h)
theorem Eu.one {α : Type} {F : Nat → Option α} {a b : α} (h : Eu F a) (k : Eu F b) : a = b := by
  obtain ⟨N, h⟩ := h
  obtain ⟨M, k⟩ := k
  have h1 := h (max N M) (by omega)
  have h2 := k (max N M) (by omega)
  rw [h1] at h2; exact Option.some.inj h2
/-- What is put of two expressions is alike just if they are the same. -/
theorem putE_inj {d d' : Nat} {e e' : TreeExpr} (h : WE d e) (h' : WE d' e') (he : putE e = putE e') : e = e' := by
  have h1 := rd_put h (r := []) (.inl rfl) rfl
  have h2 := rd_put h' (r := []) (.inl rfl) rfl
  rw [← he] at h2
  exact congrArg Prod.fst (Eu.one h1 h2)
end Go.Im
