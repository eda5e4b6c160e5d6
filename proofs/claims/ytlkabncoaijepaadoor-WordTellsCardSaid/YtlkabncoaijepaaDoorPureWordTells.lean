import Derived.Test.YtlkabncoaijepaaDoorWordPre
import Derived.Test.YtlkabncoaijepaaDoorPAllx5
namespace Go.Proofs.YtlkabncoaijepaaDoor.Pure
open Go.RowKit Go.Proofs.YtlkabncoaijepaaDoor.Bits Go.Proofs.YtlkabncoaijepaaDoor.X Go.Proofs.YtlkabncoaijepaaDoor.PAll Go.Proofs.YtlkabncoaijepaaDoorW.PrintWords Go.Proofs.YtlkabncoaijepaaDoorW.PrintLast Go.Proofs.YtlkabncoaijepaaDoorW.PrintMore
set_option linter.unusedVariables false

theorem up {α : Type} {f : Nat → Option α} (hm : ∀ k, LeO (f k) (f (k + 1))) {K : Nat} {r : α} (h : f K = some r) : ∀ k, K ≤ k → f k = some r := by
  intro k hk
  induction k with
  | zero => have : K = 0 := by omega
            subst this; exact h
  | succ k ih =>
    by_cases e : K = k + 1
    · subst e; exact h
    · exact hm k r (ih (by omega))

theorem u64_in {b : Int} (h0 : 0 ≤ b) (h1 : b < 18446744073709551616) : IntKind.u64.wrap b = b := by
  simp [IntKind.wrap, IntKind.bits, IntKind.signed]; omega
theorem shl_is (a b : Int) (h0 : 0 ≤ b) (h1 : b ≤ 63) : shl .i64 a (IntKind.u64.wrap b) = wrap64 (a * 2 ^ b.toNat) := by
  unfold shl
  rw [u64_in h0 (by omega), wrap_is, Nat.min_eq_left (by simp [IntKind.bits]; omega)]
theorem shr_is (a b : Int) (h0 : 0 ≤ b) (h1 : b ≤ 63) : shr .i64 a (IntKind.u64.wrap b) = a / 2 ^ b.toNat := by
  unfold shr
  rw [u64_in h0 (by omega), Nat.min_eq_left (by simp [IntKind.bits]; omega)]
theorem bit_ref (c : Bool) : billhookref01_bit.f c = some (if c = true then 1 else 0) := by
  unfold billhookref01_bit.f; cases c <;> rfl
theorem tdiv_m1 (a : Int) : Int.tdiv a (-1) = -a := by
  have := Int.tdiv_neg a 1
  rw [Int.tdiv_one] at this
  exact this
theorem tmod_m1 (a : Int) : Int.tmod a (-1) = 0 := by
  have := Int.tmod_neg a 1
  rw [Int.tmod_one] at this
  exact this
theorem ref_bin (o : ByteArray) (a b : Int) : billhookref01_Binary.f 5 o a b = some (binDo o.toList a b) := by
  cases hx : opIdx o.toList with
  | some k =>
    obtain ⟨hk, hl⟩ := opIdx_inv hx
    unfold binDo
    rw [hx]
    unfold billhookref01_Binary.f
    have hj : billhookref01_Binary.j0 5 o a b o = fun x93 => if x93 = true then (if b = 0 then (some (0, 1)) else (if o.toList = ([47] : List UInt8) then (billhookref01_Binary.j1 4 o a b (b == (-1))) else (billhookref01_Binary.j1 4 o a b false))) else (if o.toList = ([60, 60] : List UInt8) then (billhookref01_Binary.j2 4 o a b (o.toList == ([60, 60] : List UInt8))) else (billhookref01_Binary.j2 4 o a b (o.toList == ([62, 62] : List UInt8)))) := by
      funext x; rw [billhookref01_Binary.j0]
    have hj1 : billhookref01_Binary.j1 4 o a b = fun x103 => if x103 = true then (some (wrap64 (-a), 0)) else (if b = (-1) then (some (0, 0)) else (if o.toList = ([47] : List UInt8) then (if b = 0 then (none) else (some (wrap64 (Int.tdiv a b), 0))) else (if b = 0 then (none) else (some (Int.tmod a b, 0))))) := by
      funext x; rw [billhookref01_Binary.j1]
    have hj2 : billhookref01_Binary.j2 4 o a b = fun x116 => if x116 = true then (if b < 0 then (billhookref01_Binary.j3 3 o a b true) else (billhookref01_Binary.j3 3 o a b (decide (b > 63)))) else (some (0, 0)) := by
      funext x; rw [billhookref01_Binary.j2]
    have hj3 : billhookref01_Binary.j3 3 o a b = fun x124 => if x124 = true then (some (0, 2)) else (if o.toList = ([60, 60] : List UInt8) then (if 0 ≤ (IntKind.u64.wrap (b)) then (some (shl .i64 a (IntKind.u64.wrap (b)), 0)) else (none)) else (if 0 ≤ (IntKind.u64.wrap (b)) then (some (shr .i64 a (IntKind.u64.wrap (b)), 0)) else (none))) := by
      funext x; rw [billhookref01_Binary.j3]
    rw [hj, hj1, hj2, hj3]
    rw [hl]
    clear hx hl hj hj1 hj2 hj3
    rcases k with _|_|_|_|_|_|_|_|_|_|_|_|_|_|_|_|_|_|k
    · simp [opTexts, opDo, bit_ref]; by_cases h : a = 0 <;> by_cases h2 : b = 0 <;> simp [h, h2]
    · simp [opTexts, opDo, bit_ref]; by_cases h : a = 0 <;> by_cases h2 : b = 0 <;> simp [h, h2]
    · simp [opTexts, opDo]
    · simp [opTexts, opDo]
    · simp [opTexts, opDo]
    · simp [opTexts, opDo, bit_ref]
    · simp [opTexts, opDo, bit_ref]
    · simp [opTexts, opDo, bit_ref]
    · simp [opTexts, opDo, bit_ref]
    · simp [opTexts, opDo, bit_ref]
    · simp [opTexts, opDo, bit_ref]
    · simp [opTexts, opDo]
      by_cases h : b < 0
      · simp [h]
      · by_cases h2 : 63 < b
        · simp [h, h2]
        · have hu := u64_in (b := b) (by omega) (by omega)
          have hs := shl_is a b (by omega) (by omega)
          rw [hu] at hs ⊢
          simp [h, h2, hs]
    · simp [opTexts, opDo]
      by_cases h : b < 0
      · simp [h]
      · by_cases h2 : 63 < b
        · simp [h, h2]
        · have hu := u64_in (b := b) (by omega) (by omega)
          have hs := shr_is a b (by omega) (by omega)
          rw [hu] at hs ⊢
          simp [h, h2, hs]
    · simp [opTexts, opDo]
    · simp [opTexts, opDo]
    · simp [opTexts, opDo]
    · simp [opTexts, opDo]
      by_cases h : b = 0
      · simp [h]
      · by_cases h2 : b = -1
        · subst h2; simp
        · simp [h, h2]
    · simp [opTexts, opDo]
      by_cases h : b = 0
      · simp [h]
      · by_cases h2 : b = -1
        · subst h2; simp
        · simp [h, h2]
    · omega
  | none =>
    have hn : ∀ l ∈ opTexts, ¬ o.toList = l := by
      intro l hl he
      obtain ⟨j, hj, rfl⟩ := List.mem_iff_getElem.1 hl
      have h18 : j < 18 := by simpa [opTexts] using hj
      rw [opIdx_some (k := j) h18 (by rw [opT_toList, he, List.getD_eq_getElem?_getD, List.getElem?_eq_getElem hj]; rfl)] at hx
      cases hx
    simp only [opTexts, List.mem_cons, List.not_mem_nil, or_false, forall_eq_or_imp, forall_eq] at hn
    obtain ⟨n0, n1, n2, n3, n4, n5, n6, n7, n8, n9, n10, n11, n12, n13, n14, n15, n16, n17⟩ := hn
    unfold binDo
    rw [hx]
    unfold billhookref01_Binary.f
    simp only [n0, n1, n2, n3, n4, n5, n6, n7, n8, n9, n10, n11, n13, n14, n15, n16, if_false, billhookref01_Binary.j0, billhookref01_Binary.j2]
    simp [n17, n12]

theorem ref_un (o : ByteArray) {a : Int} (h0 : -9223372036854775808 ≤ a) (h1 : a ≤ 9223372036854775807) : ∃ r, word_Unary.f o a = some r ∧ billhookref01_Unary.f o a = some r := by
  unfold word_Unary.f billhookref01_Unary.f
  by_cases c1 : o.toList = [45]
  · simp [c1]
  · by_cases c2 : o.toList = [126]
    · have hw : wrap64 (-1 - a) = -1 - a := wrap_in (by omega) (by omega)
      simp [c2, not_is h0 h1, hw]
    · by_cases c3 : o.toList = [33]
      · simp [c3, bit_ref, word_number_eq.f, word_bit.f]
        by_cases h : a = 0 <;> simp [h]
      · simp [c1, c2, c3]

theorem refOps_is : billhookref01_Ops.f = some opList := by
  unfold billhookref01_Ops.f; rfl
theorem op_f (s : ByteArray) (k : Int) (h0 : 0 ≤ k) (h1 : k ≤ 255) : ∃ o, billhooklaw01_op.f s k = some o := by
  unfold billhooklaw01_op.f
  rw [refOps_is]
  simp only [Option.bind_some]
  have ht : Int.tmod k 18 = k % 18 := Int.tmod_eq_emod_of_nonneg h0
  have hw : wrap64 k = k := wrap_in (by omega) (by omega)
  have hl : (opList.length : Int) = 18 := by rw [opList_len]; rfl
  rw [hl, hw, ht]
  by_cases c : k < wrap64 (10 * 18)
  · rw [if_pos c, if_neg (by omega), if_pos (by omega), if_pos (by omega)]
    exact ⟨_, rfl⟩
  · rw [if_neg c]; exact ⟨_, rfl⟩
theorem ref_lev_loop (o : ByteArray) (d : Nat) : ∀ i : Nat, i + d = 18 → (∀ j, j < i → (opT j).toList ≠ o.toList) →
    billhookref01_Level.l0 (d + 1) o [1, 2, 3, 4, 5, 6, 6, 7, 7, 7, 7, 8, 8, 9, 9, 10, 10, 10] opList i = word_Level.f o := by
  induction d with
  | zero =>
    intro i hi hn
    have : i = 18 := by omega
    subst this
    rw [billhookref01_Level.l0, opList_len, if_neg (by omega)]
    unfold word_Level.f
    cases hx : opIdx o.toList with
    | none => rfl
    | some k =>
      obtain ⟨hk, hs⟩ := opIdx_inv hx
      exact absurd (by rw [opT_toList]; exact hs.symm) (hn k hk)
  | succ d ih =>
    intro i hi hn
    have hlt : i < 18 := by omega
    rw [billhookref01_Level.l0, opList_len]
    rw [if_pos (by omega), if_pos (by omega), opT_ops i hlt]
    by_cases e : (opT i).toList = o.toList
    · rw [if_pos e]
      unfold word_Level.f
      rw [opIdx_some hlt e]
      clear ih hi hn e
      rcases i with _|_|_|_|_|_|_|_|_|_|_|_|_|_|_|_|_|_|i <;> first | rfl | omega
    · rw [if_neg e]
      have hw : wrap64 ((i : Int) + 1) = ((i + 1 : Nat) : Int) := by rw [wrap_in (by omega) (by omega)]; omega
      rw [hw]
      apply ih (i + 1) (by omega)
      intro j hj
      by_cases e2 : j = i
      · subst e2; exact e
      · exact hn j (by omega)
theorem ref_lev (o : ByteArray) : billhookref01_Level.f 19 o = word_Level.f o := by
  unfold billhookref01_Level.f
  rw [refOps_is]
  exact ref_lev_loop o 18 0 rfl (fun j hj => absurd hj (by omega))

theorem bapp (l m : List UInt8) : (⟨l.toArray⟩ : ByteArray) ++ ⟨m.toArray⟩ = ⟨(l ++ m).toArray⟩ := by
  apply ByteArray.ext; simp [ByteArray.data_append]
def dgs (u : Nat) : List UInt8 := if h : u = 0 then [] else dgs (u / 10) ++ [UInt8.ofNat (48 + u % 10)]
termination_by u
decreasing_by omega
theorem dgs_is (u : Nat) : dgs (u / 10) ++ [UInt8.ofNat (48 + u % 10)] = Lib.decDigits u := by
  induction u using Nat.strongRecOn with
  | ind u ih =>
    by_cases h : u < 10
    · rw [Lib.decDigits_one h, Nat.div_eq_of_lt h, Nat.mod_eq_of_lt h]
      rw [dgs, dif_pos rfl]; rfl
    · rw [Lib.decDigits, dif_neg h, ← ih (u / 10) (by omega)]
      congr 1
      rw [dgs, dif_neg (by omega)]
theorem dig1 (u : Nat) (h : u < 18446744073709551616) : strOfNums [(IntKind.u64.wrap (48 + (Int.tmod (u : Int) 10))) % 256] = ⟨[UInt8.ofNat (48 + u % 10)].toArray⟩ := by
  have e : Int.tmod (u : Int) 10 = ((u % 10 : Nat) : Int) := by
    rw [Int.tmod_eq_emod_of_nonneg (by omega)]; omega
  rw [e, u64_in (by omega) (by omega)]
  have e2 : (48 + ((u % 10 : Nat) : Int)) % 256 = ((48 + u % 10 : Nat) : Int) := by omega
  rw [e2]
  rfl
theorem text_loop (sg : List UInt8) (hs : sg.length ≤ 1) : ∀ (n u : Nat) (acc : List UInt8), u < 10 ^ n → u < 18446744073709551616 → acc ≠ [] → acc.length + n ≤ 100 →
    billhookref01_Text.l0 (n + 1) u ⟨sg.toArray⟩ ⟨acc.toArray⟩ = some ⟨(sg ++ (dgs u ++ acc)).toArray⟩ := by
  intro n
  induction n with
  | zero =>
    intro u acc hu _ ha hl
    have : u = 0 := by omega
    subst this
    rw [billhookref01_Text.l0, if_neg (by rw [ByteArray.toList_eq]; exact ha), if_neg (by omega), if_pos (by simp [ByteArray.size]; omega), bapp, dgs, dif_pos rfl]
    rfl
  | succ n ih =>
    intro u acc hu hb ha hl
    rw [billhookref01_Text.l0, if_neg (by rw [ByteArray.toList_eq]; exact ha)]
    by_cases h0 : u = 0
    · subst h0
      rw [if_neg (by omega), if_pos (by simp [ByteArray.size]; omega), bapp, dgs, dif_pos rfl]
      rfl
    · rw [if_pos (by omega)]
      simp only [Option.bind_some]
      rw [dig1 u hb, bapp]
      have e : IntKind.u64.wrap (Int.tdiv (u : Int) 10) = ((u / 10 : Nat) : Int) := by
        rw [Int.tdiv_eq_ediv_of_nonneg (by omega), u64_in (by omega) (by omega)]; omega
      rw [e, if_pos (by simp [ByteArray.size]; omega)]
      rw [ih (u / 10) _ (by rw [Nat.pow_succ] at hu; omega) (by omega) (by simp) (by simp; omega)]
      conv => rhs; rw [dgs, dif_neg h0]
      simp
theorem text_u (sg : List UInt8) (hs : sg.length ≤ 1) (u : Nat) (hb : u < 18446744073709551616) :
    billhookref01_Text.j0 23 u ⟨sg.toArray⟩ = some ⟨(sg ++ Lib.decDigits u).toArray⟩ := by
  rw [billhookref01_Text.j0, billhookref01_Text.l0, if_pos (by rw [ByteArray.toList_eq])]
  simp only [Option.bind_some]
  have e : IntKind.u64.wrap (Int.tdiv (u : Int) 10) = ((u / 10 : Nat) : Int) := by
    rw [Int.tdiv_eq_ediv_of_nonneg (by omega), u64_in (by omega) (by omega)]; omega
  rw [dig1 u hb, e]
  have e0 : (⟨#[]⟩ : ByteArray) = ⟨([] : List UInt8).toArray⟩ := rfl
  rw [e0, bapp, if_pos (by simp [ByteArray.size])]
  rw [text_loop sg hs 20 (u / 10) _ (by omega) (by omega) (by simp) (by simp)]
  rw [List.append_nil, dgs_is]
theorem ref_text {a : Int} (h0 : -9223372036854775808 ≤ a) (h1 : a ≤ 9223372036854775807) : billhookref01_Text.f 23 a = some ⟨(Lib.itoa a).toArray⟩ := by
  unfold billhookref01_Text.f Lib.itoa
  by_cases h : a < 0
  · rw [if_pos h, if_pos h]
    have e : IntKind.u64.wrap (-(IntKind.u64.wrap a)) = ((a.natAbs : Nat) : Int) := by
      simp only [IntKind.wrap, IntKind.bits, IntKind.signed]; simp; omega
    rw [e]
    exact text_u [45] (by simp) a.natAbs (by omega)
  · rw [if_neg h, if_neg h]
    have e : IntKind.u64.wrap a = ((a.toNat : Nat) : Int) := by rw [u64_in (by omega) (by omega)]; omega
    rw [e]
    exact text_u [] (by simp) a.toNat (by omega)
theorem word_text {a : Int} (h0 : -9223372036854775808 ≤ a) (h1 : a ≤ 9223372036854775807) : word_Text.f a = some ⟨(Lib.itoa a).toArray⟩ := by
  unfold word_Text.f; rw [if_pos ⟨h0, h1⟩]

theorem tells_loop {a : Int} (h0 : -9223372036854775808 ≤ a) (h1 : a ≤ 9223372036854775807) (o : ByteArray) (x15 x16 x19 : Int) (x20 : Bool) (d : Nat) : ∀ i : Nat, i + d = 18 →
    billhooklaw01_WordTells.l0 (d + 24) a true o x15 x16 x15 x16 x19 x20 x19 x20 opList opList i = some true := by
  induction d with
  | zero =>
    intro i hi
    have : i = 18 := by omega
    subst this
    rw [billhooklaw01_WordTells.l0, opList_len, if_neg (by omega), if_pos rfl, if_pos rfl, if_pos rfl, if_pos rfl, if_pos (by simp)]
    have hl := up (billhookref01_Level.mono o) (ref_lev o) 23 (by omega)
    rw [hl, ref_text h0 h1, word_text h0 h1]
    unfold word_Level.f
    simp
  | succ d ih =>
    intro i hi
    have hlt : i < 18 := by omega
    show billhooklaw01_WordTells.l0 (d + 24 + 1) a true o x15 x16 x15 x16 x19 x20 x19 x20 opList opList i = some true
    rw [billhooklaw01_WordTells.l0, opList_len, if_pos (by omega), if_pos (by omega), if_pos (by omega), if_pos rfl]
    have hw : wrap64 ((i : Int) + 1) = ((i + 1 : Nat) : Int) := by rw [wrap_in (by omega) (by omega)]; omega
    rw [hw]
    exact ih (i + 1) (by omega)

theorem WordTells : billhooklaw01_WordTells.Pure := by
  intro s k a b x y hs wk wa wb wx wy
  obtain ⟨k0, k1⟩ := wf_u8 wk
  obtain ⟨a0, a1⟩ := wf_i64 wa
  obtain ⟨b0, b1⟩ := wf_i64 wb
  obtain ⟨x0, _⟩ := wf_u8 wx
  obtain ⟨y0, _⟩ := wf_u8 wy
  obtain ⟨o, ho⟩ := op_f s k k0 k1
  obtain ⟨a', ha, ha0, ha1⟩ := near_f a x a0 a1 x0
  obtain ⟨b', hb, _, _⟩ := near_f b y b0 b1 y0
  obtain ⟨r, hr, hq⟩ := ref_un o ha0 ha1
  refine ⟨42, ?_⟩
  unfold billhooklaw01_WordTells.f
  rw [ex_f, ho, ha, hb, refOps_is]
  simp only [Option.bind_some, if_true, word_Ops.f]
  have h2 := up (fun k => billhookref01_Binary.mono o a' b' k) (ref_bin o a' b') 42 (by omega)
  rw [h2, hr, hq, show word_Binary.f o a' b' = some (binDo o.toList a' b') from rfl]
  simp only [Option.bind_some]
  exact tells_loop ha0 ha1 o _ _ _ _ 18 0 rfl
end Go.Proofs.YtlkabncoaijepaaDoor.Pure
