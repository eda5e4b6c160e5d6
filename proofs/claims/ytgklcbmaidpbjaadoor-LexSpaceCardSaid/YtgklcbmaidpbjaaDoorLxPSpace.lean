/- LexSpace: what the law computes is true. -/
import Derived.Test.YtgklcbmaidpbjaaDoorLxA0
import Derived.Test.YtgklcbmaidpbjaaDoorTrO
import Derived.Test.YtgklcbmaidpbjaaDoorPlY
set_option linter.unusedVariables false
set_option linter.unusedSimpArgs false
set_option maxRecDepth 100000
namespace Go.Im
theorem inKl2 {α : Type} {f : α → V} {l : List α} (h : l.length ≤ maxLen) : inK .i64 (((l.map f).length : Nat) : Int) = true := by
  have hm : maxLen ≤ 9223372036854775807 := by decide
  rw [List.length_map]
  show (decide ((-9223372036854775808 : Int) ≤ (l.length : Int)) && decide ((l.length : Int) ≤ (9223372036854775807 : Int))) = true
  rw [decide_eq_true (by omega), decide_eq_true (by omega)]; rfl
theorem eu_space_l0 {l : List UInt8} (hl : l.length ≤ maxLen) : ∀ (k i : Nat) (w : List UInt8), i + k = 10 → w.length = i → (∀ x ∈ w, isSp x = true) → EuP (fun n => S.law02_space_l0 n l (bs w) (i : Int)) (fun r => ∃ w', r = bs w' ∧ (∀ x ∈ w', isSp x = true) ∧ w'.length ≤ 10) := by
  intro k
  induction k with
  | zero =>
    intro i w hi hw hs
    exact EuP.succ (fun n => S.law02_space_l0.eq_2 ..) (EuP.t (inKl2 hl) (EuP.c (fun _ => EuP.f (decide_eq_false (by omega)) (EuP.ret ⟨w, rfl, hs, by omega⟩)) (fun _ => EuP.ret ⟨w, rfl, hs, by omega⟩)))
  | succ k ih =>
    intro i w hi hw hs
    refine EuP.succ (fun n => S.law02_space_l0.eq_2 ..) (EuP.t (inKl2 hl) (EuP.c (fun hc => ?_) (fun _ => EuP.ret ⟨w, rfl, hs, by omega⟩)))
    have hlt : i < l.length := by
      have := of_decide_eq_true hc
      rw [List.length_map] at this; omega
    refine EuP.t (decide_eq_true (by omega)) (EuP.t (inRm hlt) (EuP.bs (nat_get hlt) ?_))
    have hm : Int.tmod ((l[i].toNat : Nat) : Int) 4 = ((l[i].toNat % 4 : Nat) : Int) := tmodN _ 4
    rw [hm, Int.toNat_natCast]
    have hlt4 : l[i].toNat % 4 < 4 := Nat.mod_lt _ (by decide)
    refine EuP.t (inR hlt4) (EuP.el (by simpa using hlt4) fun a ha => ?_)
    have ha' : ∃ c, a = bs [c] ∧ isSp c = true := by
      simp only [List.mem_cons, List.not_mem_nil, or_false] at ha
      rcases ha with rfl | rfl | rfl | rfl
      · exact ⟨32, rfl, rfl⟩
      · exact ⟨9, rfl, rfl⟩
      · exact ⟨10, rfl, rfl⟩
      · exact ⟨13, rfl, rfl⟩
    obtain ⟨c, rfl, hcs⟩ := ha'
    rw [bs_app]
    refine EuP.t (decide_eq_true ?_) ?_
    · rw [size_bs, size_bs]; simp only [List.length_cons, List.length_nil]; omega
    · rw [wrap_s (show i < 4611686018427387904 by omega)]
      refine ih (i + 1) (w ++ [c]) (by omega) (by simp; omega) fun x hx => ?_
      rcases List.mem_append.1 hx with hx | hx
      · exact hs x hx
      · simp only [List.mem_cons, List.not_mem_nil, or_false] at hx
        subst hx; exact hcs
theorem eu_space {l : List UInt8} (hl : l.length ≤ maxLen) : EuP (fun n => S.law02_space n l) (fun r => ∃ w', r = bs w' ∧ (∀ x ∈ w', isSp x = true) ∧ w'.length ≤ 10) :=
  EuP.eq (fun n => rfl) (EuP.bd (eu_space_l0 hl 10 0 [] rfl rfl (by simp)) fun a h => EuP.ret h)
def W8 : List (List UInt8) := [[97], [119, 104, 105, 108, 101], [49, 50], [64, 51], [60, 61], [40], [120, 57], [61, 61]]
theorem w8_next : ∀ w ∈ W8, (nextT w).map (·.txt) = some w ∧ w.length ≤ 5 := by decide +kernel
theorem w8_ex {w : List UInt8} (h : w ∈ W8) : ∃ t, t.txt = w ∧ w.length ≤ 5 ∧ ∀ r, Gap r → nextT (w ++ r) = some t := by
  obtain ⟨h1, h2⟩ := w8_next w h
  obtain ⟨t, ht, hw⟩ := Option.map_eq_some_iff.1 h1
  refine ⟨t, hw, h2, fun r hr => ?_⟩
  rw [← hw] at ht ⊢
  exact next_stab (r := []) (by rw [List.append_nil]; exact ht) (.gap hr)
theorem u8_mod {a : Int} (h : inK .u8 a = true) : ∃ i : Nat, i < 8 ∧ Int.tmod a 8 = (i : Int) := by
  obtain ⟨h0, _⟩ := inK_spec.1 h
  have h0 : (0 : Int) ≤ a := h0
  refine ⟨(a % 8).toNat, by omega, ?_⟩
  rw [Int.tmod_eq_emod_of_nonneg h0]; omega
theorem w8_get {G : Nat → ByteArray → Option Bool} {i : Nat} (hi : i < 8) (k : ∀ w ∈ W8, Eu (fun n => G n (bs w)) true) :
    Eu (fun n => ((({ data := #[97] }) :: (({ data := #[119, 104, 105, 108, 101] }) :: (({ data := #[49, 50] }) :: (({ data := #[64, 51] }) :: (({ data := #[60, 61] }) :: (({ data := #[40] }) :: (({ data := #[120, 57] }) :: (({ data := #[61, 61] }) :: ([] : List ByteArray)))))))))[i]?).bind fun x => G n x) true := by
  have e : (({ data := #[97] }) :: (({ data := #[119, 104, 105, 108, 101] }) :: (({ data := #[49, 50] }) :: (({ data := #[64, 51] }) :: (({ data := #[60, 61] }) :: (({ data := #[40] }) :: (({ data := #[120, 57] }) :: (({ data := #[61, 61] }) :: ([] : List ByteArray))))))))) = W8.map bs := rfl
  rw [e]
  have hl : i < (W8.map bs).length := hi
  refine Eu.bs (List.getElem?_eq_getElem hl) ?_
  rw [List.getElem_map]
  exact k _ (List.getElem_mem _)
theorem Pure.LexSpace {H : Type} {d2 d3 d4 : DataW H} (a0 a1 : Int) (a2 a3 a4 : List UInt8) (g0 : inK .u8 a0 = true) (g1 : inK .u8 a1 = true) (g2 : goodL (fun _ _ => True) a2 d2) (g3 : goodL (fun _ _ => True) a3 d3) (g4 : goodL (fun _ _ => True) a4 d4) : ∃ n, S.law02_LexSpace n a0 a1 a2 a3 a4 = some true := by
  obtain ⟨i, hi, ei⟩ := u8_mod g0
  obtain ⟨j, hj, ej⟩ := u8_mod g1
  obtain ⟨_, r1, s1, rfl, hs1, hl1⟩ := eu_space g2.1
  obtain ⟨_, r2, s2, rfl, hs2, hl2⟩ := eu_space g3.1
  obtain ⟨_, r3, s3, rfl, hs3, hl3⟩ := eu_space g4.1
  refine Eu.get (Eu.eq (fun n => rfl) (Eu.bd r1 (Eu.t (inKs (by omega)) ?_)))
  rw [ei, Int.toNat_natCast]
  refine Eu.t (inR hi) ?_
  refine w8_get (G := _) hi (fun u hu => ?_)
  obtain ⟨t1, ht1, hu5, hn1⟩ := w8_ex hu
  have e32 : ({ data := #[32] } : ByteArray) = bs [32] := rfl
  rw [e32]
  simp only [bs_app, size_bs]
  refine Eu.t (decide_eq_true (by omega)) (Eu.t (decide_eq_true (by simp only [List.length_append, List.length_cons, List.length_nil]; omega)) (Eu.bd r2 ?_))
  simp only [bs_app, size_bs]
  refine Eu.t (decide_eq_true (by simp only [List.length_append, List.length_cons, List.length_nil]; omega)) (Eu.t (inK_nat (by
    simp only [List.length_append, List.length_cons, List.length_nil]
    show _ ≤ 4611686018427387904
    omega)) ?_)
  rw [ej, Int.toNat_natCast]
  refine Eu.t (inR hj) ?_
  refine w8_get (G := _) hj (fun v hv => ?_)
  obtain ⟨t2, ht2, hv5, hn2⟩ := w8_ex hv
  simp only [bs_app, size_bs]
  refine Eu.t (decide_eq_true (by simp only [List.length_append, List.length_cons, List.length_nil]; omega)) (Eu.bd r3 ?_)
  simp only [bs_app, size_bs]
  refine Eu.t (decide_eq_true (by simp only [List.length_append, List.length_cons, List.length_nil]; omega)) ?_
  have gap3 : Gap s3 := by
    cases s3 with
    | nil => exact .inl rfl
    | cons c r => exact .inr ⟨c, r, rfl, hs3 c (by simp)⟩
  have hsp2 : ∀ c ∈ (32 : UInt8) :: s2, isSp c = true := fun c hc => by
    rcases List.mem_cons.1 hc with rfl | hc
    · rfl
    · exact hs2 c hc
  have hx2 := Lx.tok (0 + s1.length + t1.txt.length) (32 :: s2) t2 s3 [] none hsp2 (by rw [ht2]; exact hn2 s3 gap3) (.nil _ s3 hs3)
  have hx1 := Lx.tok 0 s1 t1 _ _ none hs1 (by rw [ht1]; exact hn1 _ (.inr ⟨32, _, rfl, rfl⟩)) hx2
  have eW : s1 ++ (t1.txt ++ (32 :: s2 ++ (t2.txt ++ s3))) = s1 ++ u ++ [32] ++ s2 ++ v ++ s3 := by rw [ht1, ht2]; simp
  rw [eW] at hx1
  have hA := eu_All (by simp only [List.length_append, List.length_cons, List.length_nil]; omega) hx1
  refine Eu.bd hA ?_
  dsimp only [ansT, List.map_cons, List.map_nil]
  refine Eu.t rfl ?_
  refine Eu.t (inK_map (show 2 ≤ LM by decide)) ?_
  simp only [List.length_map, List.length_cons, List.length_nil]
  refine Eu.t (by decide) ?_
  refine Eu.t (by decide) ?_
  refine Eu.bs (a := tokT (0 + s1.length) t1) rfl ?_
  refine Eu.t ?_ ?_
  · simp only [tokT, Nat.zero_add]; exact beq_self_eq_true _
  refine Eu.t (by decide) ?_
  refine Eu.bs (a := tokT (0 + s1.length + t1.txt.length + (32 :: s2).length) t2) rfl ?_
  refine Eu.t ?_ (Eu.t ?_ (Eu.t ?_ (Eu.t ?_ (Eu.ret ?_))))
  · simp only [tokT, Nat.zero_add, ht1]
    refine beq_iff_eq.2 ?_
    simp only [List.length_append, List.length_cons, List.length_nil]; omega
  · simp only [tokT, ht1]; exact beq_self_eq_true _
  · simp only [tokT, ht2]; exact beq_self_eq_true _
  · exact inK_nat (by
      simp only [List.length_append, List.length_cons, List.length_nil]
      show _ ≤ 4611686018427387904
      omega)
  · exact beq_self_eq_true _
end Go.Im
