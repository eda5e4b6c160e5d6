/- LexAgain: what the law computes is true. -/
import Derived.Test.YtgklcbmaidpbjaaDoorLxA1
import Derived.Test.YtgklcbmaidpbjaaDoorTrO
import Derived.Test.YtgklcbmaidpbjaaDoorPlZ
set_option linter.unusedVariables false
set_option linter.unusedSimpArgs false
set_option maxRecDepth 10000
namespace Go.Im
theorem sp_cases {c : UInt8} (h : isSp c = true) : ((c.toNat : Int) != 32) = false ∨ ((c.toNat : Int) != 9) = false ∨ ((c.toNat : Int) != 10) = false ∨ ((c.toNat : Int) != 13) = false := by
  have : ∀ n : Fin 256, isSp (UInt8.ofNat n.val) = true → (((UInt8.ofNat n.val).toNat : Int) != 32) = false ∨ (((UInt8.ofNat n.val).toNat : Int) != 9) = false ∨ (((UInt8.ofNat n.val).toNat : Int) != 10) = false ∨ (((UInt8.ofNat n.val).toNat : Int) != 13) = false := by decide +kernel
  have e : UInt8.ofNat c.toNat = c := by simp
  have := this ⟨c.toNat, c.toNat_lt⟩
  simp only [e] at this
  exact this h
/-- Nothing but space stands between two words. -/
theorem eu_gap {c : Bool} {W : List UInt8} {toks : List LexToken} {L : Int} {acc : ByteArray} {i : Nat} {x : LexToken} (hi : toks[i]? = some x) (hW : W.length ≤ 10000) (p : Nat) (hp : x.At = (p : Int)) (hpW : p ≤ W.length) :
    ∀ (k a : Nat), a + k = p → (∀ j (hj : j < W.length), a ≤ j → j < p → isSp W[j] = true) →
      Eu (fun n => S.law02_LexAgain_l1 n c (bs W) toks L acc (i : Int) (a : Int)) (Sum.inr (c, bs W, toks, L, acc, (i : Int))) := by
  have hlt : i < toks.length := (List.getElem?_eq_some_iff.1 hi).1
  intro k
  induction k with
  | zero =>
    intro a ha _
    refine Eu.succ (fun n => S.law02_LexAgain_l1.eq_2 ..) (Eu.t (inRm hlt) (Eu.bs (a := x) (by rw [Int.toNat_natCast]; exact hi) (Eu.f (decide_eq_false (by rw [hp]; omega)) (Eu.ret rfl))))
  | succ k ih =>
    intro a ha hs
    have haW : a < W.length := by omega
    have next := ih (a + 1) (by omega) fun j hj h1 h2 => hs j hj (by omega) h2
    refine Eu.succ (fun n => S.law02_LexAgain_l1.eq_2 ..) (Eu.t (inRm hlt) (Eu.bs (a := x) (by rw [Int.toNat_natCast]; exact hi) (Eu.t (decide_eq_true (by rw [hp]; omega)) (Eu.t (by rw [size_bs]; exact inR haW) ?_))))
    rw [at_bs haW, wrap_s (show a < 4611686018427387904 by omega)]
    have hc := sp_cases (hs a haW (Nat.le_refl _) (by omega))
    cases h32 : ((W[a].toNat : Int) != 32) with
    | false => exact Eu.f rfl next
    | true =>
      refine Eu.t rfl ?_
      cases h9 : ((W[a].toNat : Int) != 9) with
      | false => exact Eu.f rfl next
      | true =>
        refine Eu.t rfl ?_
        cases h10 : ((W[a].toNat : Int) != 10) with
        | false => exact Eu.f rfl next
        | true =>
          refine Eu.t rfl (Eu.f ?_ next)
          rw [h32, h9, h10] at hc
          simpa using hc
theorem drop_pre (a b : List UInt8) : (a ++ b).drop a.length = b := List.drop_left
/-- The words stand one behind the other; with a space ahead of each they are put together. -/
theorem eu_first {c : Bool} {W : List UInt8} {toks : List LexToken} {L : Int} (hW : W.length ≤ 10000) {at_ : Nat} {s : List UInt8} {l : List (Nat × Tk)} {e : Option Nat} (h : Lx at_ s l e) : e = none →
    ∀ (pre acc : List UInt8) (dn : List LexToken), W = pre ++ s → pre.length = at_ → toks = dn ++ l.map (fun y => tokT y.1 y.2) → dn.length ≤ at_ → acc.length ≤ 2 * at_ →
      Eu (fun n => S.law02_LexAgain_l0 n c (bs W) toks L (bs acc) (at_ : Int) ((dn.length : Nat) : Int)) (Sum.inr (c, bs W, toks, L, bs (acc ++ spaced l))) := by
  induction h with
  | nil a sp hs =>
    intro _ pre acc dn hpre hlen htk hdn hacc
    have hWl : W.length = a + sp.length := by rw [hpre, List.length_append, hlen]
    have htl : toks.length = dn.length := by rw [htk]; simp
    refine Eu.succ (fun n => S.law02_LexAgain_l0.eq_2 ..) (Eu.t (inKt (by omega)) (Eu.f (decide_eq_false (by rw [List.length_map]; omega)) (Eu.ret ?_)))
    simp [spaced]
  | err => intro h; cases h
  | tok a sp t r l e hs hn h ih =>
    intro he pre acc dn hpre hlen htk hdn hacc
    obtain ⟨_, hne, hnsp⟩ := next_spec hn
    have hpos : 0 < t.txt.length := List.length_pos_iff.2 hne
    have hsl := h.spaced_len.2
    have hWl : W.length = a + sp.length + (t.txt.length + r.length) := by
      rw [hpre]; simp only [List.length_append]; omega
    have htl : toks.length = dn.length + (l.length + 1) := by rw [htk]; simp
    have hget : toks[dn.length]? = some (tokT (a + sp.length) t) := by rw [htk]; simp
    have hlt : dn.length < toks.length := by omega
    have htx : (tokT (a + sp.length) t).Text = bs t.txt := rfl
    have hat : (tokT (a + sp.length) t).At = ((a + sp.length : Nat) : Int) := rfl
    have ew : IntKind.wrap .i64 (((a + sp.length : Nat) : Int) + ((t.txt.length : Nat) : Int)) = ((a + sp.length + t.txt.length : Nat) : Int) := wrapN _ (by omega) (by omega)
    have ex : ByteArray.extract (bs W) (Int.toNat ((a + sp.length : Nat) : Int)) (Int.toNat ((a + sp.length + t.txt.length : Nat) : Int)) = bs t.txt := by
      rw [ba_extract, Int.toNat_natCast, Int.toNat_natCast]
      congr 1
      have e1 : W.drop (a + sp.length) = t.txt ++ r := by
        rw [hpre, ← hlen, ← List.length_append, ← List.append_assoc]; exact drop_pre _ _
      rw [e1, show a + sp.length + t.txt.length - (a + sp.length) = t.txt.length by omega]
      exact List.take_left
    have gap := eu_gap (c := c) (W := W) (L := L) (acc := bs acc) hget hW (a + sp.length) hat (by omega) sp.length a rfl (fun j hj h1 h2 => by
      have e2 : W[j] ∈ sp := by
        have e3 : W[j]? = sp[j - a]? := by
          rw [hpre, ← List.append_assoc, List.getElem?_append_left (by rw [List.length_append]; omega), List.getElem?_append_right (by omega), hlen]
        rw [List.getElem?_eq_getElem hj] at e3
        exact List.mem_of_getElem? e3.symm
      exact hs _ e2)
    refine Eu.succ (fun n => S.law02_LexAgain_l0.eq_2 ..) (Eu.t (inKt (by omega)) (Eu.t (decide_eq_true (by rw [List.length_map]; omega)) (Eu.t (inRm hlt) (Eu.bs (a := tokT (a + sp.length) t) (by rw [Int.toNat_natCast]; exact hget) ?_))))
    rw [hat, htx]
    simp only [size_bs]
    rw [ew, ex]
    refine Eu.f (decide_eq_false (by omega)) (Eu.t (inK_nat (by show t.txt.length ≤ 4611686018427387904; omega)) (Eu.t (inK_nat (by show W.length ≤ 4611686018427387904; omega)) (Eu.f (decide_eq_false (by omega)) (Eu.t (and3 (decide_eq_true (by omega)) (decide_eq_true (by omega)) (decide_eq_true (by omega))) (Eu.f (by rw [beq_self_eq_true]; rfl) (Eu.f ?_ (Eu.bd gap (Eu.t (inRm hlt) (Eu.bs (a := tokT (a + sp.length) t) (by rw [Int.toNat_natCast]; exact hget) ?_)))))))))
    · rw [tl_bs, show ByteArray.toList ({ data := #[] } : ByteArray) = [] from tl_bs []]
      exact beq_false_of_ne hne
    · have e32 : ({ data := #[32] } : ByteArray) = bs [32] := rfl
      rw [e32, htx, hat]
      simp only [bs_app, size_bs]
      rw [ew, wrap_s (show dn.length < 4611686018427387904 by omega)]
      refine Eu.t (inK_nat (by show t.txt.length ≤ 4611686018427387904; omega)) (Eu.t (decide_eq_true (by simp only [List.length_cons, List.length_nil]; omega)) (Eu.t (decide_eq_true (by simp only [List.length_append, List.length_cons, List.length_nil]; omega)) ?_))
      have := ih he (pre ++ sp ++ t.txt) (acc ++ [32] ++ t.txt) (dn ++ [tokT (a + sp.length) t]) (by rw [hpre]; simp) (by simp only [List.length_append]; omega) (by rw [htk]; simp) (by simp only [List.length_append, List.length_cons, List.length_nil]; omega) (by simp only [List.length_append, List.length_cons, List.length_nil]; omega)
      have e4 : (dn ++ [tokT (a + sp.length) t]).length = dn.length + 1 := by simp
      rw [e4] at this
      refine this.cast ?_
      simp [spaced]
/-- The same words. -/
theorem eu_cmp {c : Bool} {B : ByteArray} {L : Int} {a b : List LexToken} (hl : a.length ≤ 10000) (hab : a.length = b.length) (hs : ∀ (i : Nat) (x y : LexToken), a[i]? = some x → b[i]? = some y → x.Kind = y.Kind ∧ x.Text = y.Text ∧ x.N = y.N) : ∀ (k i : Nat), i + k = a.length →
    Eu (fun n => S.law02_LexAgain_l2 n c B a L b (i : Int)) (Sum.inr (c, B, L)) := by
  intro k
  induction k with
  | zero =>
    intro i hi
    exact Eu.succ (fun n => S.law02_LexAgain_l2.eq_2 ..) (Eu.t (inKt (by omega)) (Eu.f (decide_eq_false (by rw [List.length_map]; omega)) (Eu.ret rfl)))
  | succ k ih =>
    intro i hi
    have hlt : i < a.length := by omega
    have hlt' : i < b.length := by omega
    obtain ⟨h1, h2, h3⟩ := hs i _ _ (List.getElem?_eq_getElem hlt) (List.getElem?_eq_getElem hlt')
    refine Eu.succ (fun n => S.law02_LexAgain_l2.eq_2 ..) (Eu.t (inKt (by omega)) (Eu.t (decide_eq_true (by rw [List.length_map]; omega)) (Eu.t (inRm hlt) (Eu.bs (nat_get hlt) (Eu.t (inRm hlt') (Eu.bs (nat_get hlt') ?_))))))
    rw [h1, h2, h3, wrap_s (show i < 4611686018427387904 by omega)]
    refine Eu.f (by simp) (Eu.f (by simp) (Eu.f (by simp) (ih (i + 1) (by omega))))
theorem Pure.LexAgain {H : Type} {d0 : DataW H} (a0 : List UInt8) (a1 : Bool) (g0 : goodL (fun _ _ => True) a0 d0) (_ : True) : ∃ n, S.law02_LexAgain n a0 a1 = some true := by
  obtain ⟨_, r0, W, rfl, hW⟩ := eu_words (tight := a1) g0.1
  obtain ⟨l, e, hx⟩ := Lx.ex W.length W 0 (Nat.le_refl _)
  have hA := eu_All (by omega) hx
  have hsl := hx.spaced_len
  refine Eu.get (Eu.eq (fun n => rfl) (Eu.bd r0 (Eu.bd hA ?_)))
  cases e with
  | some p =>
    have hp := hx.err_lt p rfl
    refine Eu.t rfl (Eu.t rfl (Eu.t rfl (Eu.t rfl (Eu.t (decide_eq_true ?_) (Eu.t (inKs (by omega)) (Eu.ret (decide_eq_true ?_)))))))
    · show (p : Int) ≥ 0; omega
    · show (p : Int) < _; rw [size_bs]; omega
  | none =>
    obtain ⟨l2, hx2, hm⟩ := hx.again rfl 0
    have hA2 := eu_All (by omega) hx2
    have hf := eu_first (c := true) (W := W) (L := (W.length : Int)) (by omega) hx rfl [] [] [] rfl rfl rfl (by simp) (by simp)
    have hll : l2.length = l.length := by have := congrArg List.length hm; simpa using this
    refine Eu.f rfl (Eu.bd hf ?_)
    dsimp only [List.nil_append]
    refine Eu.bd hA2 ?_
    have hk : ∀ m : List (Nat × Tk), m.length ≤ 10000 → inK IntKind.i64 (↑(List.length (List.map LexToken.v (m.map fun y => tokT y.1 y.2))) : Int) = true := fun m h => inKt (by rw [List.length_map]; omega)
    refine Eu.f rfl (Eu.t (hk l (by omega)) (Eu.t (hk l2 (by omega)) (Eu.f ?_ (Eu.t (inKs (by omega)) (Eu.f ?_ (Eu.bd (a := Sum.inr (true, bs W, (W.length : Int))) ?_ (Eu.t rfl (Eu.t (inKs (by omega)) (Eu.ret ?_)))))))))
    · simp only [ansT, List.length_map]; rw [hll]; simp
    · show ((((spaced l).length : Nat) : Int) != _) = false
      rw [size_bs]; simp
    · refine eu_cmp (by rw [List.length_map]; omega) (by simp only [ansT, List.length_map]; exact hll.symm) (fun i x y hi hj => ?_) _ 0 (by rw [Nat.zero_add])
      simp only [ansT, List.getElem?_map] at hi hj
      have hmi : (l[i]?).map Prod.snd = (l2[i]?).map Prod.snd := by rw [← List.getElem?_map, ← List.getElem?_map, hm]
      obtain ⟨u, hu, rfl⟩ := Option.map_eq_some_iff.1 hi
      obtain ⟨v, hv, rfl⟩ := Option.map_eq_some_iff.1 hj
      rw [hu, hv] at hmi
      have : u.2 = v.2 := by simpa using hmi
      simp only [tokT, this]; exact ⟨trivial, trivial, trivial⟩
    · rw [size_bs]; exact beq_self_eq_true _
end Go.Im
