/- LexNumbers: what the law computes is true. -/
import Derived.Test.YtgklcbmaidpbjaaDoorLxA0
import Derived.Test.YtgklcbmaidpbjaaDoorTrO
import Derived.Test.YtgklcbmaidpbjaaDoorPlY
import Derived.Lib.ParseIntBCases
set_option linter.unusedVariables false
set_option linter.unusedSimpArgs false
set_option maxRecDepth 10000
namespace Go.Im
theorem txtN (z : V) (b : Bool) (m : Int) : textOf (List.set (List.replicate 1 z) 0 (V.int b IntKind.u8 m)) = bs [UInt8.ofNat m.toNat] := rfl
theorem u8_dig : ∀ d : Fin 10, IntKind.wrap .u8 (48 + IntKind.wrap .u8 (d.val : Int)) = ((48 + d.val : Nat) : Int) := by decide
/-- The digits of a number; none of 0. -/
def dgs (u : Nat) : List UInt8 := if u = 0 then [] else Lib.decDigits u
theorem dgs_step {u : Nat} (h : u ≠ 0) : dgs u = dgs (u / 10) ++ [UInt8.ofNat (48 + u % 10)] := by
  unfold dgs
  rw [if_neg h, Lib.decDigits]
  by_cases h10 : u < 10
  · rw [dif_pos h10, if_pos (by omega), show u % 10 = u by omega]; rfl
  · rw [dif_neg h10, if_neg (by omega)]
theorem dec_step (u : Nat) : Lib.decDigits u = dgs (u / 10) ++ [UInt8.ofNat (48 + u % 10)] := by
  by_cases h : u = 0
  · subst h; rw [Lib.decDigits]; rfl
  · rw [← dgs_step h, dgs, if_neg h]
theorem eu_num_body {s0 : Int} {c : Bool} {s : List UInt8} {k : Nat} (hk : k < 18446744073709551616) (hs : s.length ≤ 1000) {R : Int × Bool × ByteArray}
    (h : Eu (fun n => S.law02_LexNumbers_l0 n s0 c (bs (UInt8.ofNat (48 + k % 10) :: s)) ((k / 10 : Nat) : Int)) R) :
    Eu (fun n => (bif decide ((↑(ByteArray.size (textOf (List.set (List.replicate 1 (V.int false IntKind.u8 0)) 0 (V.int (false || (true || false)) IntKind.u8 (IntKind.wrap IntKind.u8 (48 + IntKind.wrap IntKind.u8 (Int.tmod (k : Int) 10)))))) + ByteArray.size (bs s)) : Int) ≤ 9223372036854775807) then (S.law02_LexNumbers_l0 n s0 c (textOf (List.set (List.replicate 1 (V.int false IntKind.u8 0)) 0 (V.int (false || (true || false)) IntKind.u8 (IntKind.wrap IntKind.u8 (48 + IntKind.wrap IntKind.u8 (Int.tmod (k : Int) 10))))) ++ bs s) (IntKind.wrap IntKind.u64 (Int.tdiv (k : Int) 10))) else none)) R := by
  have e1 : IntKind.wrap IntKind.u8 (48 + IntKind.wrap IntKind.u8 (Int.tmod (k : Int) 10)) = ((48 + k % 10 : Nat) : Int) := by
    have : Int.tmod (k : Int) 10 = ((k % 10 : Nat) : Int) := tmodN k 10
    rw [this]
    exact u8_dig ⟨k % 10, Nat.mod_lt _ (by decide)⟩
  have e2 : IntKind.wrap IntKind.u64 (Int.tdiv (k : Int) 10) = ((k / 10 : Nat) : Int) := by
    have : Int.tdiv (k : Int) 10 = ((k / 10 : Nat) : Int) := tdivN k 10
    rw [this, IntKind.wrap_u64]; omega
  rw [e1, e2]
  simp only [txtN, Int.toNat_natCast, bs_app, List.cons_append, List.nil_append]
  exact Eu.t (decide_eq_true (by simp only [size_bs, List.length_cons, List.length_nil]; omega)) h
theorem eu_num_l0 {s0 : Int} {c : Bool} : ∀ (k : Nat) (s : List UInt8), k < 18446744073709551616 → s ≠ [] → s.length + k ≤ 10 ^ 100 → s.length ≤ 50 → True → k < 10 ^ (50 - s.length) →
    Eu (fun n => S.law02_LexNumbers_l0 n s0 c (bs s) (k : Int)) (s0, c, bs (dgs k ++ s)) := by
  intro k
  induction k using Nat.strongRecOn with
  | _ k ih =>
    intro s hk hne h1 hs _ hp
    have hE : (ByteArray.toList (bs s) == ByteArray.toList ({ data := #[] } : ByteArray)) = false := by
      rw [tl_bs, show ByteArray.toList ({ data := #[] } : ByteArray) = [] from tl_bs []]
      exact beq_false_of_ne hne
    refine Eu.succ (fun n => S.law02_LexNumbers_l0.eq_2 ..) (Eu.f hE ?_)
    by_cases h0 : k = 0
    · subst h0
      exact Eu.f rfl (Eu.ret (by simp [dgs]))
    · refine Eu.t (decide_eq_true (by omega)) (eu_num_body hk (by omega) ?_)
      have hlt : s.length < 50 := by
        rcases Nat.lt_or_ge s.length 50 with h | h
        · exact h
        · have : 50 - s.length = 0 := by omega
          rw [this] at hp; simp at hp; omega
      refine (ih (k / 10) (by omega) (UInt8.ofNat (48 + k % 10) :: s) (by omega) (by simp) (by simp only [List.length_cons]; omega) (by simp only [List.length_cons]; omega) trivial ?_).cast ?_
      · simp only [List.length_cons]
        have e : 50 - s.length = (50 - (s.length + 1)) + 1 := by omega
        rw [e, Nat.pow_succ] at hp
        omega
      · rw [dgs_step h0]; simp
theorem eu_num {s0 : Int} {c : Bool} {k : Nat} (hk : k < 18446744073709551616) : Eu (fun n => S.law02_LexNumbers_l0 n s0 c { data := #[] } (k : Int)) (s0, c, bs (Lib.decDigits k)) := by
  have h := eu_num_l0 (s0 := s0) (c := c) (k / 10) [UInt8.ofNat (48 + k % 10)] (by omega) (by simp) (by
    have : (10 : Nat) ^ 100 ≥ 10 ^ 30 := Nat.pow_le_pow_right (by decide) (by decide)
    have : (10 : Nat) ^ 30 = 1000000000000000000000000000000 := by decide
    simp only [List.length_cons, List.length_nil]; omega) (by simp) trivial (by
    have : (10 : Nat) ^ (50 - 1) ≥ 10 ^ 30 := Nat.pow_le_pow_right (by decide) (by decide)
    have : (10 : Nat) ^ 30 = 1000000000000000000000000000000 := by decide
    simp only [List.length_cons, List.length_nil]; omega)
  have h2 := eu_num_body (s := []) (c := c) (s0 := s0) hk (by simp) h
  rw [← dec_step] at h2
  exact Eu.succ (fun n => S.law02_LexNumbers_l0.eq_2 ..) (Eu.t (beq_self_eq_true _) h2)
theorem parse_app : ∀ (a b : List UInt8) (acc : Nat), Lib.parseUint10 acc (a ++ b) = match Lib.parseUint10 acc a with | .ok v => Lib.parseUint10 v b | .«syntax» => .«syntax» | .range => .range
  | [], b, acc => rfl
  | c :: a, b, acc => by
    simp only [List.cons_append, Lib.parseUint10]
    split
    · split
      · rfl
      · split
        · rfl
        · exact parse_app a b _
    · rfl
theorem dig_nat2 (u : Nat) (h : u < 10) : (UInt8.ofNat (48 + u)).toNat = 48 + u := by
  rw [UInt8.toNat_ofNat']; omega
theorem parse_dec : ∀ (k u : Nat), u < 10 ^ k → u < 18446744073709551616 → Lib.parseUint10 0 (decF k u) = .ok u
  | 0, u, h, _ => by
    have : u = 0 := by simpa using h
    subst this; rfl
  | k + 1, u, h, h64 => by
    rw [decF]
    by_cases h10 : u < 10
    · rw [decide_eq_true h10, cond_true]
      simp only [Lib.parseUint10, dig_nat2 u h10]
      rw [if_pos (by omega), if_neg (by omega), if_neg (by omega)]
      congr 1; omega
    · rw [decide_eq_false h10, cond_false, parse_app, parse_dec k (u / 10) (by rw [Nat.pow_succ] at h; omega) (by omega)]
      have hm : u % 10 < 10 := Nat.mod_lt _ (by decide)
      simp only [Lib.parseUint10, dig_nat2 _ hm]
      rw [if_pos (by omega), if_neg (by omega), if_neg (by omega)]
      congr 1; omega
theorem decF_dig : ∀ (k u : Nat), ∀ c ∈ decF k u, isDg c = true
  | 0, u, c, h => by simp [decF] at h; subst h; rfl
  | k + 1, u, c, h => by
    have dig : ∀ v : Nat, v < 10 → isDg (UInt8.ofNat (48 + v)) = true := fun v hv => by
      unfold isDg
      rw [dig_nat2 v hv, decide_eq_true (by omega), decide_eq_true (by omega)]; rfl
    rw [decF] at h
    by_cases h10 : u < 10
    · rw [decide_eq_true h10, cond_true] at h
      simp only [List.mem_cons, List.not_mem_nil, or_false] at h
      subst h; exact dig u h10
    · rw [decide_eq_false h10, cond_false, List.mem_append] at h
      rcases h with h | h
      · exact decF_dig k (u / 10) c h
      · simp only [List.mem_cons, List.not_mem_nil, or_false] at h
        subst h; exact dig _ (Nat.mod_lt _ (by decide))
theorem decF_ne : ∀ (k u : Nat), decF k u ≠ []
  | 0, u => by simp [decF]
  | k + 1, u => by
    rw [decF]
    cases decide (u < 10) <;> simp
theorem decF_len' : ∀ (k u : Nat), (decF k u).length ≤ k + 1
  | 0, u => by simp [decF]
  | k + 1, u => by
    have := decF_len' k (u / 10)
    rw [decF]
    cases decide (u < 10) <;> simp <;> omega
/-- A number's digits begin with no 0, but those of 0. -/
theorem decF_head : ∀ (k u : Nat), u < 10 ^ k → 0 < u → (decF k u).head? ≠ some 48
  | 0, u, h, h0 => by simp at h; omega
  | k + 1, u, h, h0 => by
    rw [decF]
    by_cases h10 : u < 10
    · rw [decide_eq_true h10, cond_true]
      intro hh
      have h2 : UInt8.ofNat (48 + u) = 48 := Option.some.inj hh
      have h3 := congrArg UInt8.toNat h2
      rw [dig_nat2 u h10] at h3
      have : (48 : UInt8).toNat = 48 := rfl
      omega
    · rw [decide_eq_false h10, cond_false]
      have ih := decF_head k (u / 10) (by rw [Nat.pow_succ] at h; omega) (by omega)
      intro hh
      apply ih
      cases hd : decF k (u / 10) with
      | nil => exact absurd hd (decF_ne _ _)
      | cons a b => rw [hd] at hh; exact hh
theorem valF_dec {u : Nat} (h : u < 18446744073709551616) (most : Int) : E.valF (decF 20 u) most = bif decide ((u : Int) ≤ most) then ((u : Int), true) else (0, false) := by
  have hp : Lib.parseUintB 64 (decF 20 u) = .ok u := by
    rw [Lib.parseUintB_64, Lib.parseMag, if_neg (decF_ne _ _)]
    exact parse_dec 20 u (by omega) h
  unfold E.valF
  rw [hp]
  simp only [beq_self_eq_true, Bool.and_true]
theorem valF_zero {u : Nat} (h : u < 18446744073709551616) (most : Int) : (E.valF (48 :: decF 20 u) most).2 = false := by
  unfold E.valF
  split
  · rename_i v hv
    have hv64 : v ≤ 18446744073709551615 := Lib.parseUintB_le hv
    have hne : ¬ decF 20 v = 48 :: decF 20 u := fun he => by
      by_cases h0 : v = 0
      · subst h0
        have : decF 20 0 = [48] := rfl
        rw [this] at he
        exact decF_ne 20 u (List.cons.inj he).2.symm
      · exact decF_head 20 v (by omega) (by omega) (by rw [he]; rfl)
    rw [beq_false_of_ne hne, Bool.and_false]; rfl
  · rfl
/-- Digits are one word, or none. -/
theorem lx_num {c : UInt8} {w : List UInt8} (h : ∀ x ∈ c :: w, isDg x = true) : ∃ l e, Lx 0 (c :: w) l e ∧ ((E.valF (c :: w) 9223372036854775808).2 = true → l = [(0, ⟨2, c :: w, (E.valF (c :: w) 9223372036854775808).1⟩)] ∧ e = none) ∧ ((E.valF (c :: w) 9223372036854775808).2 = false → l = [] ∧ e = some 0) := by
  have hc := h c (by simp)
  have hl : ¬ isLt c = true := by
    have : ∀ n : Fin 256, isDg (UInt8.ofNat n.val) = true → ¬ isLt (UInt8.ofNat n.val) = true := by decide +kernel
    have e : UInt8.ofNat c.toNat = c := by simp
    have := this ⟨c.toNat, c.toNat_lt⟩
    simp only [e] at this
    exact this hc
  have htw : (c :: w).takeWhile isDg = c :: w := by
    have := (tw_app (p := isDg) (w := c :: w) (r := []) h rfl).1
    simpa using this
  have hn : nextT (c :: w) = numT 2 (c :: w) (E.valF (c :: w) 9223372036854775808) := by rw [nextT, if_neg hl, if_pos hc, htw]
  cases hv : (E.valF (c :: w) 9223372036854775808).2 with
  | true =>
    have hn' : nextT (c :: w) = some ⟨2, c :: w, (E.valF (c :: w) 9223372036854775808).1⟩ := by rw [hn, numT, hv]; rfl
    have := Lx.tok 0 [] ⟨2, c :: w, (E.valF (c :: w) 9223372036854775808).1⟩ [] [] none (by simp) (by rw [List.append_nil]; exact hn') (.nil _ [] (by simp))
    simp only [List.nil_append, List.append_nil] at this
    exact ⟨_, none, this, (fun _ => ⟨rfl, rfl⟩), (fun h => by cases h)⟩
  | false =>
    have hn' : nextT (c :: w) = none := by rw [hn, numT, hv]; rfl
    have := Lx.err 0 [] c w (by simp) (bo_sp (dg_bo hc)) hn'
    simp only [List.nil_append] at this
    exact ⟨[], some 0, this, (fun h => by cases h), fun _ => ⟨rfl, rfl⟩⟩
theorem lx_tag {w : List UInt8} (h : ∀ x ∈ w, isDg x = true) : ∃ l e, Lx 0 (64 :: w) l e ∧ ((E.valF w 1000000).2 = true → l = [(0, ⟨3, 64 :: w, (E.valF w 1000000).1⟩)] ∧ e = none) ∧ ((E.valF w 1000000).2 = false → l = [] ∧ e = some 0) := by
  have htw : w.takeWhile isDg = w := by
    have := (tw_app (p := isDg) (w := w) (r := []) h rfl).1
    simpa using this
  have hn : nextT (64 :: w) = numT 3 (64 :: w) (E.valF w 1000000) := by rw [nextT, if_neg (show ¬ isLt 64 = true by decide), if_neg (show ¬ isDg 64 = true by decide), if_pos rfl, htw]
  cases hv : (E.valF w 1000000).2 with
  | true =>
    have hn' : nextT (64 :: w) = some ⟨3, 64 :: w, (E.valF w 1000000).1⟩ := by rw [hn, numT, hv]; rfl
    have := Lx.tok 0 [] ⟨3, 64 :: w, (E.valF w 1000000).1⟩ [] [] none (by simp) (by rw [List.append_nil]; exact hn') (.nil _ [] (by simp))
    simp only [List.nil_append, List.append_nil] at this
    exact ⟨_, none, this, (fun _ => ⟨rfl, rfl⟩), (fun h => by cases h)⟩
  | false =>
    have hn' : nextT (64 :: w) = none := by rw [hn, numT, hv]; rfl
    have := Lx.err 0 [] 64 w (by simp) rfl hn'
    simp only [List.nil_append] at this
    exact ⟨[], some 0, this, (fun h => by cases h), fun _ => ⟨rfl, rfl⟩⟩
theorem eu_c7 {u : Nat} (hu : u < 18446744073709551616) : Eu (fun n => S.law02_LexNumbers_c7 n (u : Int) true { data := #[] }) true := by
  have hD : Lib.decDigits u = decF 20 u := (decF_eq 20 u (by omega)).symm
  have hnum := eu_num (s0 := (u : Int)) (c := true) hu
  rw [hD] at hnum
  have hdig := decF_dig 20 u
  have hlen := decF_len' 20 u
  have hv1 := valF_dec hu 9223372036854775808
  have hv2 := valF_dec hu 1000000
  obtain ⟨lz, ez, hz, _, hz2⟩ := lx_num (c := 48) (w := decF 20 u) (fun x hx => by
    rcases List.mem_cons.1 hx with rfl | hx
    · rfl
    · exact hdig x hx)
  obtain ⟨rfl, rfl⟩ := hz2 (valF_zero hu _)
  have hA0 := eu_All (by simp; omega) hz
  have hAt : Eu (fun n => S.lex_All n (bs (64 :: decF 20 u))) (if (u : Int) ≤ 1000000 then ([tokT 0 ⟨3, 64 :: decF 20 u, (u : Int)⟩], ((64 :: decF 20 u).length : Int), 0) else ([], 0, 2)) := by
    obtain ⟨lt, et, htg, ht1, ht2⟩ := lx_tag hdig
    have hA := eu_All (by simp; omega) htg
    by_cases hm : (u : Int) ≤ 1000000
    · rw [decide_eq_true hm, cond_true] at hv2
      obtain ⟨rfl, rfl⟩ := ht1 (by rw [hv2])
      rw [if_pos hm]
      rw [hv2] at hA
      exact hA
    · rw [decide_eq_false hm, cond_false] at hv2
      obtain ⟨rfl, rfl⟩ := ht2 (by rw [hv2])
      rw [if_neg hm]
      exact hA
  have hA1 : Eu (fun n => S.lex_All n (bs (decF 20 u))) (if (u : Int) ≤ 9223372036854775808 then ([tokT 0 ⟨2, decF 20 u, (u : Int)⟩], ((decF 20 u).length : Int), 0) else ([], 0, 2)) := by
    obtain ⟨l1, e1, h1, g1, g2⟩ : ∃ l e, Lx 0 (decF 20 u) l e ∧ ((E.valF (decF 20 u) 9223372036854775808).2 = true → l = [(0, ⟨2, decF 20 u, (E.valF (decF 20 u) 9223372036854775808).1⟩)] ∧ e = none) ∧ ((E.valF (decF 20 u) 9223372036854775808).2 = false → l = [] ∧ e = some 0) := by
      cases hd : decF 20 u with
      | nil => exact absurd hd (decF_ne _ _)
      | cons a b => exact lx_num (by rw [← hd]; exact hdig)
    have hA := eu_All (by omega) h1
    by_cases hm : (u : Int) ≤ 9223372036854775808
    · rw [decide_eq_true hm, cond_true] at hv1
      obtain ⟨rfl, rfl⟩ := g1 (by rw [hv1])
      rw [if_pos hm]
      rw [hv1] at hA
      exact hA
    · rw [decide_eq_false hm, cond_false] at hv1
      obtain ⟨rfl, rfl⟩ := g2 (by rw [hv1])
      rw [if_neg hm]
      exact hA
  have e48 : ({ data := #[48] } : ByteArray) = bs [48] := rfl
  have e64 : ({ data := #[64] } : ByteArray) = bs [64] := rfl
  have tagged : Eu (fun n => (bif ((if (u : Int) ≤ 1000000 then ([tokT 0 ⟨3, 64 :: decF 20 u, (u : Int)⟩], ((64 :: decF 20 u).length : Int), 0) else ([], 0, 2) : List LexToken × Int × Int).2.2 == 0) == decide ((u : Int) ≤ 1000000) then (bif (if (u : Int) ≤ 1000000 then ([tokT 0 ⟨3, 64 :: decF 20 u, (u : Int)⟩], ((64 :: decF 20 u).length : Int), 0) else ([], 0, 2) : List LexToken × Int × Int).2.2 != 0 then (some (true)) else (bif inK IntKind.i64 (↑(List.length (List.map LexToken.v (if (u : Int) ≤ 1000000 then ([tokT 0 ⟨3, 64 :: decF 20 u, (u : Int)⟩], ((64 :: decF 20 u).length : Int), 0) else ([], 0, 2) : List LexToken × Int × Int).1)) : Int) then (bif (↑(List.length (List.map LexToken.v (if (u : Int) ≤ 1000000 then ([tokT 0 ⟨3, 64 :: decF 20 u, (u : Int)⟩], ((64 :: decF 20 u).length : Int), 0) else ([], 0, 2) : List LexToken × Int × Int).1)) : Int) == 1 then (bif inRange 0 (List.length (List.map LexToken.v (if (u : Int) ≤ 1000000 then ([tokT 0 ⟨3, 64 :: decF 20 u, (u : Int)⟩], ((64 :: decF 20 u).length : Int), 0) else ([], 0, 2) : List LexToken × Int × Int).1)) then ((((if (u : Int) ≤ 1000000 then ([tokT 0 ⟨3, 64 :: decF 20 u, (u : Int)⟩], ((64 :: decF 20 u).length : Int), 0) else ([], 0, 2) : List LexToken × Int × Int).1 : List LexToken)[Int.toNat 0]?).bind fun x10 => (bif LexToken.N x10 == (u : Int) then (some (LexToken.Kind x10 == 3)) else (some (false)))) else none) else (some (false))) else none)) else (some (false)))) true := by
    by_cases hm : (u : Int) ≤ 1000000
    · rw [if_pos hm, decide_eq_true hm]
      exact Eu.t rfl (Eu.f rfl (Eu.t rfl (Eu.t rfl (Eu.t rfl (Eu.bs rfl (Eu.t (beq_self_eq_true _) (Eu.ret rfl)))))))
    · rw [if_neg hm, decide_eq_false hm]
      exact Eu.t rfl (Eu.t rfl (Eu.ret rfl))
  refine Eu.eq (fun n => rfl) (Eu.bd hnum (Eu.bd hA1 ?_))
  rw [e48, e64]
  simp only [bs_app, size_bs, List.cons_append, List.nil_append]
  refine Eu.t (decide_eq_true (by simp only [List.length_cons, List.length_nil]; omega)) (Eu.bd hA0 (Eu.t (decide_eq_true (by simp only [List.length_cons, List.length_nil]; omega)) (Eu.bd hAt (Eu.bd (a := true) ?_ (Eu.ret rfl)))))
  by_cases hf : (u : Int) ≤ 9223372036854775808
  · rw [if_pos hf, decide_eq_true hf]
    refine Eu.eq (fun n => rfl) (Eu.t rfl (Eu.t rfl (Eu.f rfl (Eu.t rfl (Eu.t rfl (Eu.t rfl (Eu.bs rfl (Eu.t (beq_self_eq_true _) (Eu.t rfl (Eu.t (inKs (by omega)) (Eu.t ?_ (Eu.t rfl (Eu.t rfl ?_)))))))))))))
    · rw [size_bs]; exact beq_self_eq_true _
    · exact tagged
  · rw [if_neg hf, decide_eq_false hf]
    exact Eu.eq (fun n => rfl) (Eu.t rfl (Eu.t rfl (Eu.t rfl (Eu.t rfl (Eu.t rfl tagged)))))
theorem Pure.LexNumbers (a0 : Int) (a1 : Bool) (g0 : inK .u64 a0 = true) (_ : True) : ∃ n, S.law02_LexNumbers n a0 a1 = some true := by
  obtain ⟨h0, h1⟩ := inK_spec.1 g0
  have h0 : (0 : Int) ≤ a0 := h0
  have h1 : a0 ≤ 18446744073709551615 := h1
  refine Eu.get ?_
  cases a1 with
  | true =>
    refine Eu.eq (fun n => rfl) ?_
    obtain ⟨u, hu, hlt⟩ : ∃ u : Nat, Int.tmod a0 1000 = (u : Int) ∧ u < 18446744073709551616 := ⟨(a0 % 1000).toNat, by rw [Int.tmod_eq_emod_of_nonneg h0]; omega, by omega⟩
    exact Eu.t rfl (Eu.bd (a := true) (by rw [hu]; exact eu_c7 hlt) (Eu.ret rfl))
  | false =>
    refine Eu.eq (fun n => rfl) ?_
    obtain ⟨u, rfl⟩ : ∃ u : Nat, a0 = (u : Int) := ⟨a0.toNat, by omega⟩
    exact Eu.f rfl (Eu.bd (eu_c7 (by omega)) (Eu.ret rfl))
end Go.Im
