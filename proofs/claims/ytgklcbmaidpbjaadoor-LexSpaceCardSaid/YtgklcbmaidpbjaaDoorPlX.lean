/- Plain laws of words: what a text is cut into. -/
import Derived.Test.YtgklcbmaidpbjaaDoorImVal
set_option linter.unusedVariables false
set_option linter.unusedSimpArgs false
set_option maxRecDepth 10000
namespace Go.Im
def isSp (c : UInt8) : Bool := c == 9 || c == 10 || c == 13 || c == 32
def isLt (c : UInt8) : Bool := c == 95 || (decide (97 ≤ c.toNat) && decide (c.toNat ≤ 122)) || (decide (65 ≤ c.toNat) && decide (c.toNat ≤ 90))
def isDg (c : UInt8) : Bool := decide (48 ≤ c.toNat) && decide (c.toNat ≤ 57)
def isBo (c : UInt8) : Bool := isLt c || isDg c
def KEYL : List (List UInt8) := [[102, 117, 110, 99], [118, 97, 114], [105, 102], [101, 108, 115, 101], [119, 104, 105, 108, 101], [98, 114, 101, 97, 107], [99, 111, 110, 116, 105, 110, 117, 101], [114, 101, 116, 117, 114, 110], [97, 115, 115, 101, 114, 116], [114, 101, 97, 100]]
def SGL : List (List UInt8) := [[124, 124], [38, 38], [61, 61], [33, 61], [60, 61], [62, 61], [60, 60], [62, 62], [124], [94], [38], [60], [62], [43], [45], [42], [47], [37], [126], [33], [40], [41], [91], [93], [123], [125], [44], [59], [61]]
/-- A word: its kind, its text, its number. -/
structure Tk where
  kind : Int
  txt : List UInt8
  num : Int
def numT (k : Int) (w : List UInt8) (r : Int × Bool) : Option Tk := bif r.2 then some ⟨k, w, r.1⟩ else none
/-- The word that a text begins with. -/
def nextT : List UInt8 → Option Tk
  | [] => none
  | c :: r =>
    if isLt c = true then
      (if (c :: r).takeWhile isBo ∈ KEYL then some ⟨5, (c :: r).takeWhile isBo, 0⟩
       else if ((c :: r).takeWhile isBo).length ≤ 24 then some ⟨1, (c :: r).takeWhile isBo, 0⟩ else none)
    else if isDg c = true then numT 2 ((c :: r).takeWhile isDg) (E.valF ((c :: r).takeWhile isDg) 9223372036854775808)
    else if c = 64 then numT 3 (64 :: r.takeWhile isDg) (E.valF (r.takeWhile isDg) 1000000)
    else (SGL.find? fun x => x.isPrefixOf (c :: r)).map fun w => ⟨4, w, 0⟩
/-- A text's words, where each begins; where it is wrong. -/
inductive Lx : Nat → List UInt8 → List (Nat × Tk) → Option Nat → Prop
  | nil (at_ : Nat) (sp : List UInt8) (hs : ∀ c ∈ sp, isSp c = true) : Lx at_ sp [] none
  | err (at_ : Nat) (sp : List UInt8) (c : UInt8) (r : List UInt8) (hs : ∀ c ∈ sp, isSp c = true) (hc : isSp c = false) (hn : nextT (c :: r) = none) : Lx at_ (sp ++ c :: r) [] (some (at_ + sp.length))
  | tok (at_ : Nat) (sp : List UInt8) (t : Tk) (r : List UInt8) (l : List (Nat × Tk)) (e : Option Nat) (hs : ∀ c ∈ sp, isSp c = true) (hn : nextT (t.txt ++ r) = some t) (h : Lx (at_ + sp.length + t.txt.length) r l e) :
      Lx at_ (sp ++ (t.txt ++ r)) ((at_ + sp.length, t) :: l) e
def hd (p : UInt8 → Bool) : List UInt8 → Bool
  | [] => false
  | c :: _ => p c
theorem tw_app {p : UInt8 → Bool} : ∀ {w r : List UInt8}, (∀ c ∈ w, p c = true) → hd p r = false → (w ++ r).takeWhile p = w ∧ (w ++ r).dropWhile p = r
  | [], [], _, _ => ⟨rfl, rfl⟩
  | [], c :: r, _, h => by
    have : p c = false := h
    simp [List.takeWhile, List.dropWhile, this]
  | c :: w, r, hw, h => by
    have hc := hw c (by simp)
    obtain ⟨h1, h2⟩ := tw_app (w := w) (r := r) (fun x hx => hw x (by simp [hx])) h
    simp [List.takeWhile, List.dropWhile, hc, h1, h2]
theorem tw_pre {p : UInt8 → Bool} : ∀ s : List UInt8, ∃ r, s = s.takeWhile p ++ r ∧ hd p r = false ∧ ∀ c ∈ s.takeWhile p, p c = true
  | [] => ⟨[], rfl, rfl, by simp⟩
  | c :: s => by
    cases hc : p c with
    | false => exact ⟨c :: s, by simp [List.takeWhile, hc], hc, by simp [List.takeWhile, hc]⟩
    | true =>
      obtain ⟨r, h1, h2, h3⟩ := tw_pre (p := p) s
      refine ⟨r, ?_, h2, ?_⟩
      · simp only [List.takeWhile, hc, List.cons_append]; rw [← h1]
      · simp only [List.takeWhile, hc, List.mem_cons]
        rintro x (rfl | hx)
        · exact hc
        · exact h3 x hx
theorem bo_sp {c : UInt8} (h : isBo c = true) : isSp c = false := by
  have : ∀ n : Fin 256, isBo (UInt8.ofNat n.val) = true → isSp (UInt8.ofNat n.val) = false := by decide +kernel
  have e : UInt8.ofNat c.toNat = c := by simp
  have := this ⟨c.toNat, c.toNat_lt⟩
  simp only [e] at this
  exact this h
theorem dg_bo {c : UInt8} (h : isDg c = true) : isBo c = true := by simp [isBo, h]
theorem lt_bo {c : UInt8} (h : isLt c = true) : isBo c = true := by simp [isBo, h]
theorem sgl_all : ∀ w ∈ SGL, w ≠ [] ∧ ∀ c ∈ w, isSp c = false ∧ isBo c = false ∧ c ≠ 64 := by decide +kernel
/-- What may stand behind a word: nothing, or space. -/
def Gap (r : List UInt8) : Prop := r = [] ∨ ∃ c r', r = c :: r' ∧ isSp c = true
theorem Gap.hd {r : List UInt8} (h : Gap r) : hd isBo r = false ∧ hd isDg r = false := by
  rcases h with rfl | ⟨c, r', rfl, hc⟩
  · exact ⟨rfl, rfl⟩
  · have : isBo c = false := by
      cases hb : isBo c with
      | false => rfl
      | true => rw [bo_sp hb] at hc; cases hc
    refine ⟨this, ?_⟩
    show isDg c = false
    cases hd : isDg c with
    | false => rfl
    | true => rw [dg_bo hd] at this; cases this
theorem numT_txt {k : Int} {w : List UInt8} {r : Int × Bool} {t : Tk} (h : numT k w r = some t) : t.txt = w := by
  unfold numT at h
  cases hr : r.2 with
  | false => rw [hr] at h; cases h
  | true => rw [hr] at h; cases h; rfl
theorem tw_eq {p : UInt8 → Bool} : ∀ {x r : List UInt8}, (x ++ r).takeWhile p = x → (∀ c ∈ x, p c = true) ∧ hd p r = false
  | [], [], _ => ⟨by simp, rfl⟩
  | [], c :: r, h => by
    refine ⟨by simp, ?_⟩
    show p c = false
    cases hc : p c with
    | false => rfl
    | true => simp [List.takeWhile, hc] at h
  | c :: x, r, h => by
    cases hc : p c with
    | false => simp [List.takeWhile, hc] at h
    | true =>
      simp only [List.cons_append, List.takeWhile, hc, List.cons.injEq, true_and] at h
      obtain ⟨h1, h2⟩ := tw_eq h
      exact ⟨fun y hy => by
        rcases List.mem_cons.1 hy with rfl | hy
        · exact hc
        · exact h1 y hy, h2⟩
/-- A word's text stands ahead; no space is in it. -/
theorem next_spec {s : List UInt8} {t : Tk} (h : nextT s = some t) : (∃ r, s = t.txt ++ r) ∧ t.txt ≠ [] ∧ (∀ c ∈ t.txt, isSp c = false) := by
  cases s with
  | nil => cases h
  | cons c r =>
    rw [nextT] at h
    by_cases hl : isLt c = true
    · rw [if_pos hl] at h
      obtain ⟨r1, h1, h2, h3⟩ := tw_pre (p := isBo) (c :: r)
      have hne : (c :: r).takeWhile isBo = c :: r.takeWhile isBo := by simp [List.takeWhile, lt_bo hl]
      have fin : ∀ t : Tk, t.txt = (c :: r).takeWhile isBo → (∃ r2, c :: r = t.txt ++ r2) ∧ t.txt ≠ [] ∧ (∀ c ∈ t.txt, isSp c = false) := fun t ht => by
        refine ⟨⟨r1, by rw [ht]; exact h1⟩, by rw [ht, hne]; simp, fun x hx => ?_⟩
        rw [ht] at hx; exact bo_sp (h3 x hx)
      by_cases hk : (c :: r).takeWhile isBo ∈ KEYL
      · rw [if_pos hk] at h; exact fin t (by rw [← Option.some.inj h])
      · rw [if_neg hk] at h
        by_cases hn : ((c :: r).takeWhile isBo).length ≤ 24
        · rw [if_pos hn] at h; exact fin t (by rw [← Option.some.inj h])
        · rw [if_neg hn] at h; cases h
    · rw [if_neg hl] at h
      by_cases hg : isDg c = true
      · rw [if_pos hg] at h
        obtain ⟨r1, h1, h2, h3⟩ := tw_pre (p := isDg) (c :: r)
        have hne : (c :: r).takeWhile isDg = c :: r.takeWhile isDg := by simp [List.takeWhile, hg]
        have ht := numT_txt h
        refine ⟨⟨r1, by rw [ht]; exact h1⟩, by rw [ht, hne]; simp, fun x hx => ?_⟩
        rw [ht] at hx; exact bo_sp (dg_bo (h3 x hx))
      · rw [if_neg hg] at h
        by_cases h64 : c = 64
        · rw [if_pos h64] at h
          obtain ⟨r1, h1, h2, h3⟩ := tw_pre (p := isDg) r
          have ht := numT_txt h
          subst h64
          refine ⟨⟨r1, by rw [ht, List.cons_append, ← h1]⟩, by rw [ht]; simp, fun x hx => ?_⟩
          rw [ht] at hx
          rcases List.mem_cons.1 hx with rfl | hx
          · rfl
          · exact bo_sp (dg_bo (h3 x hx))
        · rw [if_neg h64] at h
          obtain ⟨w, hw, rfl⟩ := Option.map_eq_some_iff.1 h
          have hp : w.isPrefixOf (c :: r) = true := by simpa using List.find?_some hw
          obtain ⟨r1, hr1⟩ := List.isPrefixOf_iff_prefix.1 hp
          have hm := List.mem_of_find?_eq_some hw
          obtain ⟨hne, hall⟩ := sgl_all w hm
          exact ⟨⟨r1, hr1.symm⟩, hne, fun x hx => (hall x hx).1⟩
/-- What stands behind a word may be another thing. -/
structure Stab (r r2 : List UInt8) : Prop where
  bo : hd isBo r = false → hd isBo r2 = false
  dg : hd isDg r = false → hd isDg r2 = false
  sg : ∀ a ∈ SGL, ∀ w, a <+: w ++ r2 → a <+: w ++ r
theorem Stab.gap {r r2 : List UInt8} (h : Gap r2) : Stab r r2 := by
  refine ⟨fun _ => h.hd.1, fun _ => h.hd.2, fun a ha w hp => ?_⟩
  obtain ⟨q, hq⟩ := hp
  have hal := sgl_all a ha
  rcases List.append_eq_append_iff.1 hq with ⟨m, hm1, hm2⟩ | ⟨m, hm1, hm2⟩
  · exact ⟨m ++ r, by rw [hm1, List.append_assoc]⟩
  · cases m with
    | nil => exact ⟨r, by rw [hm1, List.append_nil]⟩
    | cons x m =>
      exfalso
      have hx : isSp x = true := by
        rcases h with rfl | ⟨y, r', rfl, hy⟩
        · cases hm2
        · rw [List.cons_append] at hm2
          have := (List.cons.inj hm2).1
          subst this; exact hy
      have := (hal.2 x (by rw [hm1]; simp)).1
      rw [hx] at this; cases this
theorem hd_pre {p : UInt8 → Bool} {a b : List UInt8} (h : hd p (a ++ b) = false) : hd p a = false := by
  cases a with
  | nil => rfl
  | cons c a => exact h
theorem Stab.pre (a b : List UInt8) : Stab (a ++ b) a :=
  ⟨hd_pre, hd_pre, fun x _ w hp => by rw [← List.append_assoc]; exact hp.trans (List.prefix_append _ _)⟩
/-- It is the same word. -/
theorem next_stab {t : Tk} {r r2 : List UInt8} (h : nextT (t.txt ++ r) = some t) (hs : Stab r r2) : nextT (t.txt ++ r2) = some t := by
  obtain ⟨_, hne, _⟩ := next_spec h
  obtain ⟨k, w, n⟩ := t
  cases w with
  | nil => exact absurd rfl hne
  | cons c w =>
    simp only [List.cons_append] at h ⊢
    rw [nextT] at h ⊢
    by_cases hl : isLt c = true
    · rw [if_pos hl] at h ⊢
      have hw : (c :: (w ++ r)).takeWhile isBo = c :: w := by
        by_cases hk : (c :: (w ++ r)).takeWhile isBo ∈ KEYL
        · rw [if_pos hk] at h; exact (Tk.mk.inj (Option.some.inj h)).2.1
        · rw [if_neg hk] at h
          by_cases hn : ((c :: (w ++ r)).takeWhile isBo).length ≤ 24
          · rw [if_pos hn] at h; exact (Tk.mk.inj (Option.some.inj h)).2.1
          · rw [if_neg hn] at h; cases h
      obtain ⟨h1, h2⟩ := tw_eq (x := c :: w) (r := r) hw
      have hw2 : (c :: (w ++ r2)).takeWhile isBo = c :: w := (tw_app h1 (hs.bo h2)).1
      rw [hw] at h; rw [hw2]; exact h
    · rw [if_neg hl] at h ⊢
      by_cases hg : isDg c = true
      · rw [if_pos hg] at h ⊢
        have hw : (c :: (w ++ r)).takeWhile isDg = c :: w := (numT_txt h).symm
        obtain ⟨h1, h2⟩ := tw_eq (x := c :: w) (r := r) hw
        have hw2 : (c :: (w ++ r2)).takeWhile isDg = c :: w := (tw_app h1 (hs.dg h2)).1
        rw [hw] at h; rw [hw2]; exact h
      · rw [if_neg hg] at h ⊢
        by_cases h64 : c = 64
        · rw [if_pos h64] at h ⊢
          have hw : (w ++ r).takeWhile isDg = w := by
            have := numT_txt h
            exact (List.cons.inj this).2.symm
          obtain ⟨h1, h2⟩ := tw_eq hw
          have hw2 : (w ++ r2).takeWhile isDg = w := (tw_app h1 (hs.dg h2)).1
          rw [hw] at h; rw [hw2]; exact h
        · rw [if_neg h64] at h ⊢
          obtain ⟨v, hv, hvt⟩ := Option.map_eq_some_iff.1 h
          obtain rfl : v = c :: w := (Tk.mk.inj hvt).2.1
          obtain ⟨h1, l1, l2, h2, h3⟩ := List.find?_eq_some_iff_append.1 hv
          have hf : (SGL.find? fun x => x.isPrefixOf (c :: (w ++ r2))) = some (c :: w) := by
            refine List.find?_eq_some_iff_append.2 ⟨List.isPrefixOf_iff_prefix.2 ⟨r2, rfl⟩, l1, l2, h2, fun a ha => ?_⟩
            have hna := h3 a ha
            cases hb : a.isPrefixOf (c :: (w ++ r2)) with
            | false => rfl
            | true =>
              exfalso
              have hp : a <+: (c :: w) ++ r := hs.sg a (by rw [h2]; simp [ha]) (c :: w) (List.isPrefixOf_iff_prefix.1 hb)
              have : a.isPrefixOf (c :: (w ++ r)) = true := List.isPrefixOf_iff_prefix.2 hp
              rw [this] at hna; cases hna
          rw [hf, ← hvt]; rfl
/-- Each text has its words. -/
theorem Lx.ex : ∀ (k : Nat) (s : List UInt8) (at_ : Nat), s.length ≤ k → ∃ l e, Lx at_ s l e := by
  intro k
  induction k with
  | zero =>
    intro s at_ h
    obtain rfl : s = [] := List.eq_nil_of_length_eq_zero (by omega)
    exact ⟨[], none, .nil _ [] (by simp)⟩
  | succ k ih =>
    intro s at_ h
    obtain ⟨r, h1, h2, h3⟩ := tw_pre (p := isSp) s
    cases r with
    | nil => exact ⟨[], none, by rw [h1, List.append_nil]; exact .nil _ _ h3⟩
    | cons c r =>
      cases hn : nextT (c :: r) with
      | none => exact ⟨[], _, by rw [h1]; exact .err _ _ c r h3 h2 hn⟩
      | some t =>
        obtain ⟨⟨r', hr'⟩, hne, hsp⟩ := next_spec hn
        have hlen : s.length = (s.takeWhile isSp).length + (t.txt.length + r'.length) := by
          have := congrArg List.length h1
          rw [hr'] at this
          simp only [List.length_append] at this
          omega
        have hpos : 0 < t.txt.length := List.length_pos_iff.2 hne
        obtain ⟨l, e, hl⟩ := ih r' (at_ + (s.takeWhile isSp).length + t.txt.length) (by omega)
        refine ⟨(at_ + (s.takeWhile isSp).length, t) :: l, e, ?_⟩
        have := Lx.tok at_ (s.takeWhile isSp) t r' l e h3 (by rw [← hr']; exact hn) hl
        rwa [← hr', ← h1] at this
/-- Words with a space ahead of each. -/
def spaced (l : List (Nat × Tk)) : List UInt8 := l.flatMap fun x => 32 :: x.2.txt
theorem Gap.spaced : ∀ l : List (Nat × Tk), Gap (spaced l)
  | [] => .inl rfl
  | x :: l => .inr ⟨32, _, rfl, rfl⟩
/-- They are the same words. -/
theorem Lx.again {at_ : Nat} {s : List UInt8} {l : List (Nat × Tk)} {e : Option Nat} (h : Lx at_ s l e) : e = none → ∀ at2, ∃ l2, Lx at2 (spaced l) l2 none ∧ l2.map Prod.snd = l.map Prod.snd := by
  induction h with
  | nil at_ sp hs => exact fun _ at2 => ⟨[], .nil _ [] (by simp), rfl⟩
  | err => intro h; cases h
  | tok at_ sp t r l e hs hn h ih =>
    intro he at2
    obtain ⟨l2, h2, hm⟩ := ih he (at2 + 1 + t.txt.length)
    refine ⟨_, .tok at2 [32] t (Im.spaced l) l2 none (by simp [isSp]) (next_stab hn (.gap (Gap.spaced l))) h2, by simp [hm]⟩
/-- Cut behind a word: the words up to there, and those behind. -/
theorem Lx.cut {at_ : Nat} {s : List UInt8} {l : List (Nat × Tk)} {e : Option Nat} (h : Lx at_ s l e) : e = none → ∀ (k : Nat) (x : Nat × Tk), l[k]? = some x → ∃ a b, s = a ++ b ∧ at_ + a.length = x.1 + x.2.txt.length ∧ Lx at_ a (l.take (k + 1)) none ∧
    ∀ at2, Lx at2 b ((l.drop (k + 1)).map fun y => (y.1 + at2 - (x.1 + x.2.txt.length), y.2)) none := by
  have shift : ∀ {a1 : Nat} {s : List UInt8} {l : List (Nat × Tk)} {e : Option Nat}, Lx a1 s l e → e = none → ∀ at2, Lx at2 s (l.map fun y => (y.1 + at2 - a1, y.2)) none := by
    intro a1 s l e h
    have ge : ∀ {a1 : Nat} {s : List UInt8} {l : List (Nat × Tk)} {e : Option Nat}, Lx a1 s l e → ∀ y ∈ l, a1 ≤ y.1 := by
      intro a1 s l e h
      induction h with
      | nil => intro y hy; simp at hy
      | err => intro y hy; simp at hy
      | tok a sp t r l e hs hn h ih =>
        intro y hy
        rcases List.mem_cons.1 hy with rfl | hy
        · show a ≤ a + sp.length; omega
        · have := ih y hy; omega
    induction h with
    | nil a sp hs => exact fun _ at2 => .nil _ _ hs
    | err => intro h; cases h
    | tok a sp t r l e hs hn h ih =>
      intro he at2
      have h1 := ih he (at2 + sp.length + t.txt.length)
      have e1 : (l.map fun y => (y.1 + (at2 + sp.length + t.txt.length) - (a + sp.length + t.txt.length), y.2)) = (l.map fun y => (y.1 + at2 - a, y.2)) := by
        refine List.map_congr_left fun y hy => ?_
        have := ge h y hy
        congr 1; omega
      rw [e1] at h1
      have e2 : a + sp.length + at2 - a = at2 + sp.length := by omega
      simp only [List.map_cons, e2]
      exact .tok at2 sp t r _ none hs hn h1
  induction h with
  | nil => intro _ k x hx; simp at hx
  | err => intro h; cases h
  | tok a sp t r l e hs hn h ih =>
    intro he k x hx
    cases k with
    | zero =>
      simp at hx; subst hx
      refine ⟨sp ++ t.txt, r, by simp, by simp; omega, ?_, fun at2 => ?_⟩
      · have := Lx.tok a sp t [] [] none hs (next_stab hn (.gap (.inl rfl))) (.nil _ [] (by simp))
        simpa using this
      · simpa using shift h he at2
    | succ k =>
      obtain ⟨a1, b1, h1, h2, h3, h4⟩ := ih he k x (by simpa using hx)
      refine ⟨sp ++ (t.txt ++ a1), b1, by rw [h1]; simp, by simp at h2 ⊢; omega, ?_, fun at2 => by simpa using h4 at2⟩
      have hn' : nextT (t.txt ++ a1) = some t := by
        rw [h1] at hn
        exact next_stab hn (.pre a1 b1)
      simpa using Lx.tok a sp t a1 _ none hs hn' h3
end Go.Im
