/- Plain laws of words: what the lexer comes to. -/
import Derived.Test.YtgklcbmaidpbjaaDoorLxA0
import Derived.Test.YtgklcbmaidpbjaaDoorPlE
import Derived.Test.YtgklcbmaidpbjaaDoorPlX
set_option linter.unusedVariables false
set_option linter.unusedSimpArgs false
set_option maxRecDepth 10000
namespace Go.Im
def LETB : ByteArray := { data := #[95, 97, 98, 99, 100, 101, 102, 103, 104, 105, 106, 107, 108, 109, 110, 111, 112, 113, 114, 115, 116, 117, 118, 119, 120, 121, 122, 65, 66, 67, 68, 69, 70, 71, 72, 73, 74, 75, 76, 77, 78, 79, 80, 81, 82, 83, 84, 85, 86, 87, 88, 89, 90] }
def BOTB : ByteArray := { data := #[95, 97, 98, 99, 100, 101, 102, 103, 104, 105, 106, 107, 108, 109, 110, 111, 112, 113, 114, 115, 116, 117, 118, 119, 120, 121, 122, 65, 66, 67, 68, 69, 70, 71, 72, 73, 74, 75, 76, 77, 78, 79, 80, 81, 82, 83, 84, 85, 86, 87, 88, 89, 90, 48, 49, 50, 51, 52, 53, 54, 55, 56, 57] }
def DIGB : ByteArray := { data := #[48, 49, 50, 51, 52, 53, 54, 55, 56, 57] }
def SPAB : ByteArray := { data := #[9, 10, 13, 32] }
theorem byte_all {P : UInt8 → Prop} (h : ∀ n : Fin 256, P (UInt8.ofNat n.val)) (c : UInt8) : P c := by
  have e : UInt8.ofNat c.toNat = c := by simp
  have := h ⟨c.toNat, c.toNat_lt⟩
  simp only [e] at this
  exact this
theorem has_let (n : Nat) (c : UInt8) : S.lex_set_has n LETB (c.toNat : Int) = some (isLt c) :=
  byte_all (P := fun c => S.lex_set_has n LETB (c.toNat : Int) = some (isLt c)) (by
    have : ∀ k : Fin 256, S.lex_set_has 0 LETB ((UInt8.ofNat k.val).toNat : Int) = some (isLt (UInt8.ofNat k.val)) := by decide +kernel
    exact this) c
theorem has_bot (n : Nat) (c : UInt8) : S.lex_set_has n BOTB (c.toNat : Int) = some (isBo c) :=
  byte_all (P := fun c => S.lex_set_has n BOTB (c.toNat : Int) = some (isBo c)) (by
    have : ∀ k : Fin 256, S.lex_set_has 0 BOTB ((UInt8.ofNat k.val).toNat : Int) = some (isBo (UInt8.ofNat k.val)) := by decide +kernel
    exact this) c
theorem has_dig (n : Nat) (c : UInt8) : S.lex_set_has n DIGB (c.toNat : Int) = some (isDg c) :=
  byte_all (P := fun c => S.lex_set_has n DIGB (c.toNat : Int) = some (isDg c)) (by
    have : ∀ k : Fin 256, S.lex_set_has 0 DIGB ((UInt8.ofNat k.val).toNat : Int) = some (isDg (UInt8.ofNat k.val)) := by decide +kernel
    exact this) c
theorem has_spa (n : Nat) (c : UInt8) : S.lex_set_has n SPAB (c.toNat : Int) = some (isSp c) :=
  byte_all (P := fun c => S.lex_set_has n SPAB (c.toNat : Int) = some (isSp c)) (by
    have : ∀ k : Fin 256, S.lex_set_has 0 SPAB ((UInt8.ofNat k.val).toNat : Int) = some (isSp (UInt8.ofNat k.val)) := by decide +kernel
    exact this) c
theorem at_bs {s : List UInt8} {i : Nat} (h : i < s.length) : Option.getD (Array.toList (ByteArray.data (bs s)))[Int.toNat (i : Int)]? 0 = s[i] := by
  have : Array.toList (ByteArray.data (bs s)) = s := bl_bs s
  rw [this, nat_get h]; rfl
theorem inKs {s : List UInt8} (h : s.length ≤ 1000000) : inK IntKind.i64 (↑(ByteArray.size (bs s)) : Int) = true := by
  rw [size_bs]; exact inK_nat (by show s.length ≤ 4611686018427387904; omega)
theorem eu_while_l0 {S0 : ByteArray} {p : UInt8 → Bool} (hp : ∀ n c, S.lex_set_has n S0 (UInt8.toNat c : Int) = some (p c)) {s : List UInt8} (hs : s.length ≤ 1000000) : ∀ (k i : Nat), i + k = s.length →
    Eu (fun n => S.lex_while_lex_set_has_l0 n (bs s) S0 (i : Int)) ((i + ((s.drop i).takeWhile p).length : Nat) : Int) := by
  intro k
  induction k with
  | zero =>
    intro i hi
    refine Eu.succ (fun n => S.lex_while_lex_set_has_l0.eq_2 ..) (Eu.t (inKs hs) (Eu.f (decide_eq_false (by rw [size_bs]; omega)) (Eu.ret ?_)))
    rw [List.drop_eq_nil_of_le (by omega)]; simp
  | succ k ih =>
    intro i hi
    have hlt : i < s.length := by omega
    rw [List.drop_eq_getElem_cons hlt]
    refine Eu.succ (fun n => S.lex_while_lex_set_has_l0.eq_2 ..) (Eu.t (inKs hs) (Eu.t (decide_eq_true (by rw [size_bs]; omega)) (Eu.t (by rw [size_bs]; exact inR hlt) ?_)))
    rw [at_bs hlt]
    refine Eu.bd (Eu.eq (fun n => hp n _) (Eu.ret rfl)) ?_
    cases hc : p s[i] with
    | false => exact Eu.f rfl (Eu.ret (by simp [List.takeWhile, hc]))
    | true =>
      refine Eu.t rfl ?_
      rw [wrap_s (show i < 4611686018427387904 by omega)]
      refine (ih (i + 1) (by omega)).cast ?_
      simp only [List.takeWhile, hc, List.length_cons]
      congr 1; omega
theorem eu_while {S0 : ByteArray} {p : UInt8 → Bool} (hp : ∀ n c, S.lex_set_has n S0 (UInt8.toNat c : Int) = some (p c)) {s : List UInt8} (hs : s.length ≤ 1000000) :
    Eu (fun n => S.lex_while_lex_set_has n (bs s) S0) (((s.takeWhile p).length : Nat) : Int) := by
  have := eu_while_l0 hp hs s.length 0 (by omega)
  simp only [List.drop_zero, Nat.zero_add] at this
  exact Eu.eq (fun n => rfl) (Eu.bd this (Eu.ret rfl))
theorem bif_or (c d : Bool) : (bif c then some true else some d) = some (c || d) := by cases c <;> rfl
theorem isKey_eq (n : Nat) (w : List UInt8) : S.lex_IsKey n (bs w) = some (decide (w ∈ KEYL)) := by
  have h : S.lex_IsKey n (bs w) = some (KEYL.any fun k => w == k) := by
    show (bif ByteArray.toList (bs w) == ByteArray.toList (bs [102, 117, 110, 99]) then (some (true)) else (bif ByteArray.toList (bs w) == ByteArray.toList (bs [118, 97, 114]) then (some (true)) else (bif ByteArray.toList (bs w) == ByteArray.toList (bs [105, 102]) then (some (true)) else (bif ByteArray.toList (bs w) == ByteArray.toList (bs [101, 108, 115, 101]) then (some (true)) else (bif ByteArray.toList (bs w) == ByteArray.toList (bs [119, 104, 105, 108, 101]) then (some (true)) else (bif ByteArray.toList (bs w) == ByteArray.toList (bs [98, 114, 101, 97, 107]) then (some (true)) else (bif ByteArray.toList (bs w) == ByteArray.toList (bs [99, 111, 110, 116, 105, 110, 117, 101]) then (some (true)) else (bif ByteArray.toList (bs w) == ByteArray.toList (bs [114, 101, 116, 117, 114, 110]) then (some (true)) else (bif ByteArray.toList (bs w) == ByteArray.toList (bs [97, 115, 115, 101, 114, 116]) then (some (true)) else (bif ByteArray.toList (bs w) == ByteArray.toList (bs [114, 101, 97, 100]) then (some (true)) else (some (false)))))))))))) = _
    simp only [tl_bs, bif_or, KEYL, List.any_cons, List.any_nil]
  rw [h]
  congr 1
  rw [Bool.eq_iff_iff]
  simp only [List.any_eq_true, beq_iff_eq, decide_eq_true_eq]
  exact ⟨fun ⟨k, hk, e⟩ => e ▸ hk, fun h => ⟨w, h, rfl⟩⟩
/-- Is it a name? of letters and digits. -/
theorem eu_isName {c : UInt8} {w : List UInt8} (hc : isLt c = true) (hw : ∀ x ∈ c :: w, isBo x = true) (hl : (c :: w).length ≤ 1000000) : Eu (fun n => S.lex_IsName n (bs (c :: w))) (decide ((c :: w).length ≤ 24) && !decide (c :: w ∈ KEYL)) := by
  have h0 : (ByteArray.toList (bs (c :: w)) == ByteArray.toList (bs [])) = false := by rw [tl_bs, tl_bs]; rfl
  have htw : ((c :: w).takeWhile isBo) = c :: w := by
    have := (tw_app (p := isBo) (w := c :: w) (r := []) hw rfl).1
    simpa using this
  refine Eu.eq (fun n => rfl) (Eu.t (by rw [show ByteArray.toList ({ data := #[] } : ByteArray) = ByteArray.toList (bs []) from rfl, h0]; rfl) (Eu.t (inKs hl) ?_))
  rw [size_bs]
  by_cases h24 : (c :: w).length ≤ 24
  · refine Eu.t (decide_eq_true (by omega)) (Eu.t (inR (i := 0) (by simp)) ?_)
    have hat : Option.getD (Array.toList (ByteArray.data (bs (c :: w))))[Int.toNat (0 : Int)]? 0 = c := at_bs (s := c :: w) (i := 0) (by simp)
    rw [hat]
    refine Eu.bd (a := true) (Eu.eq (fun n => (has_let n c).trans (by rw [hc])) (Eu.ret rfl)) (Eu.t rfl (Eu.bd (eu_while has_bot hl) (Eu.t (by rw [htw]; exact beq_self_eq_true _) (Eu.bd (Eu.eq (fun n => isKey_eq n _) (Eu.ret rfl)) (Eu.ret ?_)))))
    rw [decide_eq_true h24, Bool.true_and]
  · refine Eu.f (decide_eq_false (by omega)) (Eu.ret ?_)
    rw [decide_eq_false h24]; rfl
theorem and3 {a b c : Bool} (ha : a = true) (hb : b = true) (hc : c = true) : (a && b && c) = true := by rw [ha, hb, hc]; rfl
def tokT (p : Nat) (t : Tk) : LexToken := ⟨t.kind, bs t.txt, t.num, (p : Int)⟩
theorem next_l0 {s : List UInt8} {g0 : LexToken} {l : List (List UInt8)} (hl : l.length ≤ 100) : ∀ (k i : Nat), i + k = l.length →
    Eu (fun n => S.lex_next_l0 n (bs s) (l.map bs) ((l.length : Nat) : Int) (i : Int) g0) (match (l.drop i).find? (fun x => x.isPrefixOf s) with | some w => Sum.inl (true, LexToken.mk g0.Kind (bs w) g0.N g0.At) | none => Sum.inr g0) := by
  intro k
  induction k with
  | zero =>
    intro i hi
    refine Eu.succ (fun n => S.lex_next_l0.eq_2 ..) (Eu.f (decide_eq_false (by omega)) (Eu.ret ?_))
    rw [List.drop_eq_nil_of_le (by omega)]; rfl
  | succ k ih =>
    intro i hi
    have hlt : i < l.length := by omega
    have hlt' : i < (l.map bs).length := by simpa using hlt
    rw [List.drop_eq_getElem_cons hlt]
    refine Eu.succ (fun n => S.lex_next_l0.eq_2 ..) (Eu.t (decide_eq_true (by omega)) (Eu.t (inRm hlt') (Eu.bs (nat_get hlt') ?_)))
    have hp : E.HasPrefix (bs s) (l.map bs)[i] = (l[i]).isPrefixOf s := by
      rw [List.getElem_map]
      show ((bs l[i]).data.toList).isPrefixOf (bs s).data.toList = _
      rw [bl_bs, bl_bs]
    rw [hp]
    cases hc : (l[i]).isPrefixOf s with
    | true => exact Eu.t rfl (Eu.ret (by simp [List.find?, hc]))
    | false =>
      refine Eu.f rfl ?_
      rw [wrap_s (show i < 4611686018427387904 by omega)]
      refine (ih (i + 1) (by omega)).cast ?_
      simp [List.find?, hc]
/-- The word that a text begins with. -/
theorem eu_next {c : UInt8} {r : List UInt8} (hl : (c :: r).length ≤ 10000) : ∃ x, Eu (fun n => S.lex_next n (bs (c :: r))) x ∧ match nextT (c :: r) with
    | some t => x = (LexToken.mk t.kind (bs t.txt) t.num 0, true)
    | none => x.2 = false := by
  have hat : Option.getD (Array.toList (ByteArray.data (bs (c :: r))))[Int.toNat (0 : Int)]? 0 = c := at_bs (s := c :: r) (i := 0) (by simp)
  have h0 : inRange 0 (ByteArray.size (bs (c :: r))) = true := by rw [size_bs]; exact inR (i := 0) (by simp)
  have hl6 : (c :: r).length ≤ 1000000 := by omega
  have tl : ∀ p : UInt8 → Bool, ((c :: r).takeWhile p).length ≤ (c :: r).length := fun p => by
    obtain ⟨r1, h1, _⟩ := tw_pre (p := p) (c :: r)
    have := congrArg List.length h1
    rw [List.length_append] at this; omega
  have ext : ∀ p : UInt8 → Bool, ByteArray.extract (bs (c :: r)) (Int.toNat 0) (Int.toNat (((c :: r).takeWhile p).length : Int)) = bs ((c :: r).takeWhile p) := fun p => by
    rw [ba_extract]
    obtain ⟨r1, h1, _⟩ := tw_pre (p := p) (c :: r)
    congr 1
    have e2 : (c :: r).take ((c :: r).takeWhile p).length = (c :: r).takeWhile p := by
      conv => lhs; rw [h1]
      rw [← h1]
      have := List.take_left (l₁ := (c :: r).takeWhile p) (l₂ := r1)
      rwa [← h1] at this
    simpa using e2
  have g3 : ∀ p : UInt8 → Bool, (decide ((0 : Int) ≤ 0) && decide ((0 : Int) ≤ (((c :: r).takeWhile p).length : Int)) && decide ((((c :: r).takeWhile p).length : Int) ≤ (↑(ByteArray.size (bs (c :: r))) : Int))) = true := fun p => by
    rw [size_bs, decide_eq_true (Int.le_refl 0), decide_eq_true (by omega), decide_eq_true (by have := tl p; omega)]; rfl
  by_cases h1 : isLt c = true
  · -- a name, a key
    have hne : (c :: r).takeWhile isBo = c :: r.takeWhile isBo := by simp [List.takeWhile, lt_bo h1]
    obtain ⟨r1, e1, e2, e3⟩ := tw_pre (p := isBo) (c :: r)
    have hname : Eu (fun n => S.lex_IsName n (bs ((c :: r).takeWhile isBo))) (decide (((c :: r).takeWhile isBo).length ≤ 24) && !decide ((c :: r).takeWhile isBo ∈ KEYL)) := by
      have := eu_isName (c := c) (w := r.takeWhile isBo) h1 (by rw [← hne]; exact e3) (by rw [← hne]; have := tl isBo; omega)
      rw [← hne] at this; exact this
    have go : ∀ {R}, Eu (fun n => ((S.lex_IsKey n (bs ((c :: r).takeWhile isBo))).bind fun x5 => (bif x5 then (some ((LexToken.mk (5) (bs ((c :: r).takeWhile isBo)) (0) (0)), (true))) else ((S.lex_IsName n (bs ((c :: r).takeWhile isBo))).bind fun x7 => (some ((LexToken.mk (1) (bs ((c :: r).takeWhile isBo)) (0) (0)), (x7))))))) R → Eu (fun n => S.lex_next n (bs (c :: r))) R := fun {R} h => by
      refine Eu.eq (fun n => rfl) (Eu.t h0 ?_)
      rw [hat]
      refine Eu.bd (a := true) (Eu.eq (fun n => (has_let n c).trans (by rw [h1])) (Eu.ret rfl)) (Eu.t rfl (Eu.bd (eu_while has_bot hl6) (Eu.t (g3 isBo) ?_)))
      rw [ext isBo]; exact h
    rw [nextT, if_pos h1]
    by_cases hk : (c :: r).takeWhile isBo ∈ KEYL
    · rw [if_pos hk]
      refine ⟨_, go (Eu.bd (a := true) (Eu.eq (fun n => (isKey_eq n _).trans (by rw [decide_eq_true hk])) (Eu.ret rfl)) (Eu.t rfl (Eu.ret rfl))), rfl⟩
    · rw [if_neg hk]
      have go2 := fun {R} h => go (R := R) (Eu.bd (a := false) (Eu.eq (fun n => (isKey_eq n _).trans (by rw [decide_eq_false hk])) (Eu.ret rfl)) (Eu.f rfl (Eu.bd hname h)))
      rw [decide_eq_false hk, Bool.not_false, Bool.and_true] at go2
      by_cases h24 : ((c :: r).takeWhile isBo).length ≤ 24
      · rw [if_pos h24]
        exact ⟨_, go2 (Eu.ret rfl), by rw [decide_eq_true h24]⟩
      · rw [if_neg h24]
        exact ⟨_, go2 (Eu.ret rfl), decide_eq_false h24⟩
  · have h1' : isLt c = false := Bool.eq_false_iff.2 h1
    have num : ∀ (k : Int) (w : List UInt8) (v : Int × Bool), match numT k w v with | some t => (LexToken.mk k (bs w) v.1 0, v.2) = (LexToken.mk t.kind (bs t.txt) t.num 0, true) | none => (LexToken.mk k (bs w) v.1 0, v.2).2 = false := fun k w v => by
      unfold numT
      cases hv : v.2 <;> rfl
    rw [nextT, if_neg h1]
    by_cases h2 : isDg c = true
    · rw [if_pos h2]
      refine ⟨(LexToken.mk 2 (bs ((c :: r).takeWhile isDg)) (E.valF ((c :: r).takeWhile isDg) 9223372036854775808).1 0, (E.valF ((c :: r).takeWhile isDg) 9223372036854775808).2), ?_, num _ _ _⟩
      refine Eu.eq (fun n => rfl) (Eu.t h0 ?_)
      rw [hat]
      refine Eu.bd (a := false) (Eu.eq (fun n => (has_let n c).trans (by rw [h1'])) (Eu.ret rfl)) (Eu.f rfl (Eu.bd (a := true) (Eu.eq (fun n => (has_dig n c).trans (by rw [h2])) (Eu.ret rfl)) (Eu.t rfl (Eu.bd (eu_while has_dig hl6) (Eu.t (g3 isDg) ?_)))))
      rw [ext isDg]
      refine Eu.bs (a := E.valF ((c :: r).takeWhile isDg) 9223372036854775808) ?_ (Eu.ret rfl)
      unfold E.value
      have := tl isDg
      rw [size_bs, decide_eq_true (by omega), bl_bs]; rfl
    · have h2' : isDg c = false := Bool.eq_false_iff.2 h2
      rw [if_neg h2]
      by_cases h3 : c = 64
      · subst h3
        rw [if_pos rfl]
        obtain ⟨r1, q1, q2, q3⟩ := tw_pre (p := isDg) r
        have hrl : (r.takeWhile isDg).length ≤ r.length := by
          have := congrArg List.length q1
          rw [List.length_append] at this; omega
        refine ⟨(LexToken.mk 3 (bs (64 :: r.takeWhile isDg)) (E.valF (r.takeWhile isDg) 1000000).1 0, (E.valF (r.takeWhile isDg) 1000000).2), ?_, num _ _ _⟩
        have hlen : (64 :: r : List UInt8).length = r.length + 1 := rfl
        refine Eu.eq (fun n => rfl) (Eu.t h0 ?_)
        rw [hat]
        have ex1 : ByteArray.extract (bs (64 :: r)) (Int.toNat 1) (Int.toNat (↑(ByteArray.size (bs (64 :: r))) : Int)) = bs r := by
          rw [ba_extract, size_bs]
          congr 1
          have e1 : Int.toNat 1 = 1 := rfl
          rw [e1, List.drop_succ_cons, List.drop_zero, Int.toNat_natCast, hlen, Nat.add_sub_cancel, List.take_length]
        have ew : IntKind.wrap .i64 (1 + ((r.takeWhile isDg).length : Int)) = (((64 :: r.takeWhile isDg).length : Nat) : Int) := wrapN _ (by simp only [List.length_cons]; omega) (by simp only [List.length_cons]; omega)
        have ex2 : ByteArray.extract (bs (64 :: r)) (Int.toNat 0) (Int.toNat (((64 :: r.takeWhile isDg).length : Nat) : Int)) = bs (64 :: r.takeWhile isDg) := by
          rw [ba_extract]
          congr 1
          have e2 : r.take (r.takeWhile isDg).length = r.takeWhile isDg := by
            have := List.take_left (l₁ := r.takeWhile isDg) (l₂ := r1)
            rwa [← q1] at this
          simp [e2]
        have ex3 : ByteArray.extract (bs (64 :: r.takeWhile isDg)) (Int.toNat 1) (Int.toNat (↑(ByteArray.size (bs (64 :: r.takeWhile isDg))) : Int)) = bs (r.takeWhile isDg) := by
          rw [ba_extract, size_bs]
          congr 1
          have e1 : Int.toNat 1 = 1 := rfl
          rw [e1, List.drop_succ_cons, List.drop_zero, Int.toNat_natCast, List.length_cons, Nat.add_sub_cancel, List.take_length]
        refine Eu.bd (a := false) (Eu.eq (fun n => (has_let n 64)) (Eu.ret rfl)) (Eu.f rfl (Eu.bd (a := false) (Eu.eq (fun n => (has_dig n 64)) (Eu.ret rfl)) (Eu.f rfl (Eu.t rfl (Eu.t ?_ ?_)))))
        · rw [size_bs, hlen]; exact and3 rfl (decide_eq_true (by omega)) (decide_eq_true (by omega))
        rw [ex1]
        refine Eu.bd (eu_while has_dig (by omega)) ?_
        rw [ew]
        refine Eu.t ?_ ?_
        · rw [size_bs, hlen]; exact and3 rfl (decide_eq_true (by omega)) (decide_eq_true (by simp only [List.length_cons]; omega))
        rw [ex2]
        refine Eu.t ?_ ?_
        · rw [size_bs]; exact and3 rfl (decide_eq_true (by simp only [List.length_cons]; omega)) (decide_eq_true (by omega))
        rw [ex3]
        refine Eu.bs (a := E.valF (r.takeWhile isDg) 1000000) ?_ (Eu.ret rfl)
        unfold E.value
        rw [size_bs, decide_eq_true (by omega), bl_bs]; rfl
      · rw [if_neg h3]
        have hx := next_l0 (s := c :: r) (g0 := LexToken.mk 4 { data := #[] } 0 0) (l := SGL) (by decide) SGL.length 0 (by omega)
        rw [List.drop_zero] at hx
        have h64 : ((c.toNat : Int) == 64) = false := by
          refine beq_false_of_ne fun h => h3 ?_
          exact UInt8.toNat_inj.1 (by
            have : (64 : UInt8).toNat = 64 := rfl
            omega)
        have go : ∀ {R}, Eu (fun n => ((S.lex_next_l0 n (bs (c :: r)) (SGL.map bs) ((SGL.length : Nat) : Int) ((0 : Nat) : Int) (LexToken.mk 4 { data := #[] } 0 0)).bind fun x8 => match x8 with | (Sum.inl x8) => (some (x8.2, x8.1)) | (Sum.inr x8) => (some (x8, (false))))) R → Eu (fun n => S.lex_next n (bs (c :: r))) R := fun {R} h => by
          refine Eu.eq (fun n => rfl) (Eu.t h0 ?_)
          rw [hat]
          exact Eu.bd (a := false) (Eu.eq (fun n => (has_let n c).trans (by rw [h1'])) (Eu.ret rfl)) (Eu.f rfl (Eu.bd (a := false) (Eu.eq (fun n => (has_dig n c).trans (by rw [h2'])) (Eu.ret rfl)) (Eu.f rfl (Eu.f h64 h))))
        cases hf : SGL.find? (fun x => x.isPrefixOf (c :: r)) with
        | none =>
          rw [hf] at hx
          exact ⟨_, go (Eu.bd hx (Eu.ret rfl)), rfl⟩
        | some w =>
          rw [hf] at hx
          exact ⟨_, go (Eu.bd hx (Eu.ret rfl)), rfl⟩
/-- The words of a text. -/
theorem eu_All_l0 {W : List UInt8} (hW : W.length ≤ 8192) {at_ : Nat} {s : List UInt8} {l : List (Nat × Tk)} {e : Option Nat} (h : Lx at_ s l e) : ∀ (pre : List UInt8) (acc : List LexToken), W = pre ++ s → pre.length = at_ → acc.length ≤ at_ →
    Eu (fun n => S.lex_All_l0 n (bs W) ((at_ + (s.takeWhile isSp).length : Nat) : Int) SPAB acc) (match e with | none => Sum.inr (bs W, acc ++ l.map fun y => tokT y.1 y.2) | some p => Sum.inl ((p : Int), 2, acc ++ l.map fun y => tokT y.1 y.2)) := by
  have drop_pre : ∀ (a b : List UInt8), (a ++ b).drop a.length = b := fun a b => List.drop_left
  induction h with
  | nil a sp hs =>
    intro pre acc hpre hlen _
    have htw : sp.takeWhile isSp = sp := by
      have := (tw_app (p := isSp) (w := sp) (r := []) hs rfl).1
      simpa using this
    have hWl : W.length = a + sp.length := by rw [hpre, List.length_append, hlen]
    refine Eu.succ (fun n => S.lex_All_l0.eq_2 ..) (Eu.t (inKs (by omega)) (Eu.f (decide_eq_false (by rw [size_bs, htw]; omega)) (Eu.ret ?_)))
    simp
  | err a sp c r hs hc hn =>
    intro pre acc hpre hlen _
    have htw : (sp ++ c :: r).takeWhile isSp = sp := (tw_app (r := c :: r) hs hc).1
    have hWl : W.length = a + sp.length + (r.length + 1) := by
      rw [hpre]; simp only [List.length_append, List.length_cons]; omega
    have ex : ByteArray.extract (bs W) (Int.toNat ((a + sp.length : Nat) : Int)) (Int.toNat (↑(ByteArray.size (bs W)) : Int)) = bs (c :: r) := by
      rw [ba_extract, size_bs, Int.toNat_natCast, Int.toNat_natCast]
      congr 1
      have e1 : W.drop (a + sp.length) = c :: r := by
        rw [hpre, ← hlen, ← List.length_append, ← List.append_assoc]; exact drop_pre _ _
      rw [e1]
      exact List.take_of_length_le (by simp only [List.length_cons]; omega)
    obtain ⟨x, hx, hm⟩ := eu_next (c := c) (r := r) (by simp only [List.length_cons]; omega)
    rw [hn] at hm
    rw [htw]
    refine Eu.succ (fun n => S.lex_All_l0.eq_2 ..) (Eu.t (inKs (by omega)) (Eu.t (decide_eq_true (by rw [size_bs]; omega)) (Eu.t ?_ ?_)))
    · rw [size_bs, decide_eq_true (by omega), decide_eq_true (by omega), decide_eq_true (by omega)]; rfl
    rw [ex]
    exact Eu.bd hx (Eu.t (by rw [hm]; rfl) (Eu.ret (by simp)))
  | tok a sp t r l e hs hn h ih =>
    intro pre acc hpre hlen hacc
    obtain ⟨_, hne, hnsp⟩ := next_spec hn
    have hhd : hd isSp (t.txt ++ r) = false := by
      cases ht : t.txt with
      | nil => exact absurd ht hne
      | cons c w => exact hnsp c (by rw [ht]; simp)
    have htw : (sp ++ (t.txt ++ r)).takeWhile isSp = sp := (tw_app hs hhd).1
    have hWl : W.length = a + sp.length + (t.txt.length + r.length) := by
      rw [hpre]; simp only [List.length_append]; omega
    have hpos : 0 < t.txt.length := List.length_pos_iff.2 hne
    have ex : ByteArray.extract (bs W) (Int.toNat ((a + sp.length : Nat) : Int)) (Int.toNat (↑(ByteArray.size (bs W)) : Int)) = bs (t.txt ++ r) := by
      rw [ba_extract, size_bs, Int.toNat_natCast, Int.toNat_natCast]
      congr 1
      have e1 : W.drop (a + sp.length) = t.txt ++ r := by
        rw [hpre, ← hlen, ← List.length_append, ← List.append_assoc]; exact drop_pre _ _
      rw [e1]
      exact List.take_of_length_le (by simp only [List.length_append]; omega)
    have ex2 : ByteArray.extract (bs W) (Int.toNat ((a + sp.length + t.txt.length : Nat) : Int)) (Int.toNat (↑(ByteArray.size (bs W)) : Int)) = bs r := by
      rw [ba_extract, size_bs, Int.toNat_natCast, Int.toNat_natCast]
      congr 1
      have e1 : W.drop (a + sp.length + t.txt.length) = r := by
        rw [hpre, ← hlen, ← List.length_append, ← List.append_assoc, ← List.append_assoc, ← List.length_append]; exact drop_pre _ _
      rw [e1]
      exact List.take_of_length_le (by omega)
    have hnx : ∃ x, Eu (fun n => S.lex_next n (bs (t.txt ++ r))) x ∧ x = (LexToken.mk t.kind (bs t.txt) t.num 0, true) := by
      cases ht : t.txt ++ r with
      | nil => exact absurd (List.append_eq_nil_iff.1 ht).1 hne
      | cons c w =>
        have hcl : (c :: w).length ≤ 10000 := by rw [← ht, List.length_append]; omega
        obtain ⟨x, hx, hm⟩ := eu_next hcl
        rw [ht] at hn
        rw [hn] at hm
        exact ⟨x, hx, hm⟩
    obtain ⟨x, hx, rfl⟩ := hnx
    rw [htw]
    refine Eu.succ (fun n => S.lex_All_l0.eq_2 ..) (Eu.t (inKs (by omega)) (Eu.t (decide_eq_true (by rw [size_bs]; omega)) (Eu.t ?_ ?_)))
    · rw [size_bs, decide_eq_true (by omega), decide_eq_true (by omega), decide_eq_true (by omega)]; rfl
    rw [ex]
    have ew : IntKind.wrap .i64 (((a + sp.length : Nat) : Int) + ((t.txt.length : Nat) : Int)) = ((a + sp.length + t.txt.length : Nat) : Int) := wrapN _ (by omega) (by omega)
    have hrt : (r.takeWhile isSp).length ≤ r.length := by
      obtain ⟨r1, h1, _⟩ := tw_pre (p := isSp) r
      have := congrArg List.length h1
      rw [List.length_append] at this; omega
    have ew2 : IntKind.wrap .i64 (((a + sp.length + t.txt.length : Nat) : Int) + (((r.takeWhile isSp).length : Nat) : Int)) = ((a + sp.length + t.txt.length + (r.takeWhile isSp).length : Nat) : Int) := wrapN _ (by omega) (by omega)
    refine Eu.bd hx (Eu.f rfl (Eu.t (decide_eq_true ?_) (Eu.t (inKs (by omega)) ?_)))
    · simp only [List.length_map, List.length_cons, List.length_nil]
      show acc.length + (0 + 1) ≤ 4294967296
      omega
    dsimp only
    rw [size_bs (t.txt), ew]
    refine Eu.t ?_ ?_
    · rw [size_bs, decide_eq_true (by omega), decide_eq_true (by omega), decide_eq_true (by omega)]; rfl
    rw [ex2]
    refine Eu.bd (eu_while has_spa (by omega)) ?_
    rw [ew2]
    refine (ih (pre ++ sp ++ t.txt) (acc ++ [tokT (a + sp.length) t]) (by rw [hpre]; simp) (by simp only [List.length_append]; omega) (by simp only [List.length_append, List.length_cons, List.length_nil]; omega)).cast ?_
    cases e <;> simp [tokT]
/-- What is answered of a text. -/
def ansT (W : List UInt8) (l : List (Nat × Tk)) : Option Nat → List LexToken × Int × Int
  | none => (l.map (fun y => tokT y.1 y.2), (W.length : Int), 0)
  | some p => ([], (p : Int), 2)
theorem eu_All {W : List UInt8} (hW : W.length ≤ 8192) {l : List (Nat × Tk)} {e : Option Nat} (h : Lx 0 W l e) :
    Eu (fun n => S.lex_All n (bs W)) (ansT W l e) := by
  have h1 := eu_All_l0 hW h [] [] rfl rfl (Nat.le_refl _)
  simp only [Nat.zero_add, List.nil_append] at h1
  refine Eu.eq (fun n => rfl) (Eu.t (inKs (by omega)) (Eu.f (decide_eq_false (by rw [size_bs]; omega)) (Eu.bd (eu_while has_spa (by omega)) (Eu.bd h1 ?_))))
  cases e with
  | none => exact Eu.t (inKs (by omega)) (Eu.ret (by rw [size_bs]; rfl))
  | some p => exact Eu.ret rfl
end Go.Im
