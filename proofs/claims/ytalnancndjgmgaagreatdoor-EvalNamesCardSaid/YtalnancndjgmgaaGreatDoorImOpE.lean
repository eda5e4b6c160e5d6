/- The ideal machine: addresses, parts, cuts. -/
import Derived.Test.YtalnancndjgmgaaGreatDoorImOpD
namespace Go.Im
set_option linter.unusedVariables false
theorem info_of_pos {P : Program} {t : TypeId} (h : 0 < P.cellsOf t) : (P.info? t).isSome := by
  unfold Program.cellsOf at h
  cases hi : P.info? t with
  | none => simp [hi] at h
  | some i => rfl
theorem lstOf_spec {l : Look} {id : Nat} {B : Blk} (h : lstOf l id = some B) : l id = some B ∧ B.lst = true := by
  unfold lstOf at h
  split at h
  · rename_i b hb
    split at h
    · rename_i hl; cases h; exact ⟨hb, hl⟩
    · cases h
  · cases h
theorem idxAt_ob {s : Bool} {i k : Nat} {ps ps' : List Ev} {ob ob' : Prop} (h : idxAt s i ps ob = some (k, ps', ob')) (ho : ob') : ob ∧ k = i := by
  unfold idxAt at h
  split at h
  · cases h; exact ⟨ho, rfl⟩
  · split at h
    · cases h; exact ⟨ho.1, (eq_of_beq ho.2).symm⟩
    · cases h
theorem inRange_spec {i : Int} {n : Nat} (h : inRange i n = true) : 0 ≤ i ∧ i < n := by
  simpa [inRange] using h
theorem indexAddr_run {P : Program} {X : Cr} {w : World} {l : Look} (hl : RelL X w l) {t : TypeId} {a b : V} {x y : Value} {ps : List Ev} {ob : Prop} {r : Out}
    (h : opIndexAddr P l t a b ps ob = some r) (hx : X.vr w a x) (hy : X.vr w b y) (hob : r.ob) :
    r.upd = [] ∧ r.new = [] ∧ ob ∧ ∃ z, (Instr.indexAt t x y).run P w = .ok z w ∧ X.vr w r.v z := by
  unfold opIndexAddr at h
  split at h
  · rename_i elem s xs s' k i hu
    split at h
    · rename_i ps1 ob1 hm
      split at h
      · rename_i e ps2 ob2 he
        split at h
        · rename_i hsz
          obtain ⟨hsz, hpos⟩ := hsz
          cases h
          obtain ⟨h1, u, hxe, hul, huc⟩ := elemAt_ob he hob
          obtain ⟨h2, hr⟩ := must_ob hm h1
          obtain ⟨hi0, hin⟩ := inRange_spec hr
          rw [vr_int hy]
          have hs := run_sizeOf' (P := P) (info_of_pos hpos) w
          cases vr_isl hx with
          | isl0 => simp at hin; omega
          | isl _ _ b o cap sz c e' f xv hcap hown hb hszs hc hrr =>
            have hsz' : sz = P.cellsOf elem := by rw [← hszs _ _ hxe, ← hul]; exact hsz
            subst hsz'
            refine ⟨rfl, rfl, h2, .pointer (some ⟨b, o + i.toNat * P.cellsOf elem + 0, none⟩), ?_, .imm _ _ (.iptr e 0 b (o + i.toNat * P.cellsOf elem) c e' f (xv i.toNat) hown hb (fun j v hj => by obtain ⟨v', h1, _⟩ := huc j v hj; exact hc _ _ j v' hxe h1) (fun j v hj => by obtain ⟨v', h1, h2⟩ := huc j v hj; exact h2 _ _ _ (hrr _ _ j v' hxe h1)))⟩
            simp [Instr.indexAt, run_underlying hu, asIntOf, hi0, hin, hs, add_off]
        · cases h
      · cases h
    · cases h
  · rename_i elem id j len s' k i hu
    split at h
    · rename_i ps1 ob1 hm
      split at h
      · rename_i B hB
        split at h
        · rename_i kk ps2 ob2 hk
          split at h
          · rename_i hsz
            obtain ⟨hsz, hpos⟩ := hsz
            cases h
            obtain ⟨h3, rfl⟩ := idxAt_ob hk hob
            obtain ⟨h2, hr⟩ := must_ob hm h3
            obtain ⟨hi0, hin⟩ := inRange_spec hr
            rw [vr_int hy]
            have hs := run_sizeOf' (P := P) (info_of_pos hpos) w
            obtain ⟨b, s, sz, o, cap, c, e, f, hρ, hle, ho, hb, hc, rfl⟩ := vr_msl hx
            obtain ⟨b', s', c', t', hρ', hown, hb', hrow, hty⟩ := hl.real hB hρ
            rw [hρ] at hρ'
            cases hρ'
            have ho' : o = s + j * B.sz := ho.resolve_left (by omega)
            refine ⟨rfl, rfl, h2, .pointer (some ⟨b, s + (j + i.toNat) * B.sz + 0, none⟩), ?_, .mptr id _ 0 b s _ hρ⟩
            simp [Instr.indexAt, run_underlying hu, asIntOf, hi0, hin, hs, add_off, ho', hsz, Nat.add_mul, Nat.add_assoc]
          · cases h
        · cases h
      · cases h
    · cases h
  · rename_i elem id s' k i hu
    split at h
    · rename_i B hB
      obtain ⟨hB, hlst⟩ := lstOf_spec hB
      split at h
      · rename_i ps1 ob1 hm
        split at h
        · rename_i kk ps2 ob2 hk
          split at h
          · rename_i hsz
            obtain ⟨hsz, hpos⟩ := hsz
            cases h
            obtain ⟨h3, rfl⟩ := idxAt_ob hk hob
            obtain ⟨h2, hr⟩ := must_ob hm h3
            obtain ⟨hi0, hin⟩ := inRange_spec hr
            rw [vr_int hy]
            have hs := run_sizeOf' (P := P) (info_of_pos hpos) w
            have hn := vr_osl hx
            rcases hl.blk id B hB with hg | hr
            · rw [hg.2.1] at hin; simp at hin; omega
            · obtain ⟨b, s, c, t', hρ, hown, hb, hrow, hty, hls⟩ := hr
              obtain ⟨⟨cap, g1, g2, g3, g4⟩, _⟩ := hls hlst
              rw [hn] at g1
              cases g1
              refine ⟨rfl, rfl, h2, .pointer (some ⟨b, s + i.toNat * B.sz + 0, none⟩), ?_, .mptr id _ 0 b s _ hρ⟩
              simp [Instr.indexAt, run_underlying hu, asIntOf, hi0, hin, hs, add_off, hsz]
          · cases h
        · cases h
      · cases h
    · cases h
  · rename_i len elem id j off s' k i hu
    split at h
    · rename_i hpos
      split at h
      · rename_i ps1 ob1 hm
        cases h
        obtain ⟨h2, hr⟩ := must_ob hm hob
        obtain ⟨hi0, hin⟩ := inRange_spec hr
        rw [vr_int hy]
        have hs := run_sizeOf' (P := P) (info_of_pos hpos) w
        obtain ⟨b, s, sz, hρ, rfl⟩ := vr_mptr hx
        refine ⟨rfl, rfl, h2, .pointer (some ⟨b, s + j * sz + (off + i.toNat * P.cellsOf elem), none⟩), ?_, .mptr id _ _ b s _ hρ⟩
        simp [Instr.indexAt, Instr.sureAddr, run_underlying hu, asIntOf, hi0, hin, hs, add_off, Nat.add_assoc]
      · cases h
    · cases h
  · rename_i len elem e off s' k i hu
    split at h
    · rename_i hpos
      split at h
      · rename_i ps1 ob1 hm
        cases h
        obtain ⟨h2, hr⟩ := must_ob hm hob
        obtain ⟨hi0, hin⟩ := inRange_spec hr
        rw [vr_int hy]
        have hs := run_sizeOf' (P := P) (info_of_pos hpos) w
        cases vr_iptr hx with
        | iptr _ _ b o c t f xv hown hb hc hrr =>
          refine ⟨rfl, rfl, h2, .pointer (some ⟨b, o + (off + i.toNat * P.cellsOf elem), none⟩), ?_, .imm _ _ (.iptr e _ b o c t f xv hown hb hc hrr)⟩
          simp [Instr.indexAt, Instr.sureAddr, run_underlying hu, asIntOf, hi0, hin, hs, add_off, Nat.add_assoc]
      · cases h
    · cases h
  · cases h
theorem fieldAddr_run {P : Program} {w : World} {s : TypeId} {fs : Array Field} {g : Field} {i : Nat} {b q : Nat} (hu : P.underlying s = some (.struct fs)) (hg : fs[i]? = some g) (hpos : P.cellsOf g.type ≠ 0) :
    (Instr.fieldAt s (.pointer (some ⟨b, q, none⟩)) i).run P w = .ok (.pointer (some ⟨b, q + g.offset, none⟩)) w := by
  have hs := run_sizeOf' (P := P) (info_of_pos (Nat.pos_of_ne_zero hpos)) w
  simp [Instr.fieldAt, run_underlying hu, hg, Instr.sureAddr, fieldPlace, hs, hpos, add_off]
theorem bound_run {P : Program} {w : World} {k : IntKind} {i : Int} {y : Nat} {code : BoundsCode} (h0 : 0 ≤ i) (h1 : i ≤ y) : (Instr.sliceBound (.int k i) y code).run P w = .ok i.toNat w := by
  simp [Instr.sliceBound, asIntOf, h0, h1]
/-- Bounds as they are given. -/
def OptR (a : Act) (X : Cr) (w : World) (o : Option Operand) (v : Option (Bool × Int)) : Prop :=
  match o, v with
  | none, none => True
  | some x, some (_, n) => ∃ k, a.eval x = .int k n
  | _, _ => False
theorem optInt_r {X : Cr} {w : World} {T : List V} {a : Act} (hs : SR X w T a) {o : Option Operand} {v : Option (Bool × Int)} (h : optInt T o = some v) : OptR a X w o v := by
  unfold optInt at h
  split at h
  · cases h; trivial
  · split at h
    · rename_i he
      cases h
      exact ⟨_, vr_int (ev_vr hs he)⟩
    · cases h
theorem cutV_ob {n : Nat} {s s' : Bool} {l h : Option (Bool × Int)} {ps ps' : List Ev} {ob ob' : Prop} {a b : Nat} (e : cutV n s l h ps ob = some (s', a, b, ps', ob')) (ho : ob') :
    ob ∧ a ≤ b ∧ b ≤ n ∧ 0 ≤ (l.getD (false, 0)).2 ∧ (l.getD (false, 0)).2.toNat = a ∧ 0 ≤ (h.getD (s, (n : Int))).2 ∧ (h.getD (s, (n : Int))).2.toNat = b := by
  unfold cutV at e
  simp only at e
  split at e
  · rename_i ps1 ob1 hm
    cases e
    obtain ⟨h1, h2⟩ := must_ob hm ho
    simp only [Bool.and_eq_true, decide_eq_true_eq] at h2
    exact ⟨h1, by omega, by omega, h2.1.1, rfl, by omega, rfl⟩
  · cases e
theorem bounds_run {P : Program} {X : Cr} {w : World} {ac : Act} {isS : Bool} {n m : Nat} (hnm : n ≤ m) {lo hi : Option Operand} {l h : Option (Bool × Int)} (hl : OptR ac X w lo l) (hh : OptR ac X w hi h) {s : Bool} {a b : Nat}
    (hab : a ≤ b) (hbn : b ≤ n) (h1 : 0 ≤ (l.getD (false, 0)).2) (h2 : (l.getD (false, 0)).2.toNat = a) (h3 : 0 ≤ (h.getD (s, (n : Int))).2) (h4 : (h.getD (s, (n : Int))).2.toNat = b) :
    (Instr.sliceBounds isS n m (lo.map ac.eval) (hi.map ac.eval) none).run P w = .ok (a, b, m) w := by
  have one : ∀ {lo : Option Operand} {l : Option (Bool × Int)}, OptR ac X w lo l → (lo = none ∧ l = none) ∨ ∃ x q i k, lo = some x ∧ l = some (q, i) ∧ ac.eval x = .int k i := by
    intro lo l h
    unfold OptR at h
    split at h
    · exact .inl ⟨rfl, rfl⟩
    · obtain ⟨k, hk⟩ := h; exact .inr ⟨_, _, _, k, rfl, rfl, hk⟩
    · exact h.elim
  rcases one hl with ⟨rfl, rfl⟩ | ⟨x, q, i, k, rfl, rfl, hk⟩ <;> rcases one hh with ⟨rfl, rfl⟩ | ⟨x', q', i', k', rfl, rfl, hk'⟩
  · simp at h2 h4
    subst h2 h4
    simp [Instr.sliceBounds]
  · simp at h2 h3 h4
    subst h2
    have e1 := bound_run (P := P) (w := w) (k := k') (i := i') (y := m) (code := if isS then .sliceAcap else .sliceAlen) h3 (by omega)
    simp only [Instr.sliceBounds, Option.map_some, Option.map_none, hk', Sem.run_bind, e1, Result.andThen_ok, Sem.run_pure, h4]
  · simp at h1 h2 h4
    subst h4
    have e1 := bound_run (P := P) (w := w) (k := k) (i := i) (y := n) (code := .sliceB) h1 (by omega)
    simp only [Instr.sliceBounds, Option.map_some, Option.map_none, hk, Sem.run_bind, Sem.run_pure, Result.andThen_ok, Option.isSome_none, Bool.false_eq_true, if_false, e1, h2]
  · simp at h1 h2 h3 h4
    have e1 := bound_run (P := P) (w := w) (k := k') (i := i') (y := m) (code := if isS then .sliceAcap else .sliceAlen) h3 (by omega)
    have e2 := bound_run (P := P) (w := w) (k := k) (i := i) (y := b) (code := .sliceB) h1 (by omega)
    simp only [Instr.sliceBounds, Option.map_some, hk, hk', Sem.run_bind, e1, Result.andThen_ok, Sem.run_pure, h4, Option.isSome_none, Bool.false_eq_true, if_false, e2, h2]
theorem slice_run {P : Program} {X : Cr} {w : World} {l : Look} (hl : RelL X w l) {ac : Act} {t elem : TypeId} (hu : P.underlying t = some (.slice elem)) {a : V} {x : Value} {lo hi : Option Operand} {vl vh : Option (Bool × Int)}
    (hlo : OptR ac X w lo vl) (hhi : OptR ac X w hi vh) {ps : List Ev} {ob : Prop} {r : Out} (h : opSlice P l elem a vl vh ps ob = some r) (hx : X.vr w a x) (hob : r.ob) :
    r.upd = [] ∧ r.new = [] ∧ ob ∧ ∃ z, (Instr.sliceAt t x (lo.map ac.eval) (hi.map ac.eval) none).run P w = .ok z w ∧ X.vr w r.v z := by
  unfold opSlice at h
  simp only at h
  split at h
  · cases h
  rename_i hn
  have hs := run_sizeOf' (P := P) (info_of_pos (Nat.pos_of_ne_zero hn)) w
  have run : ∀ (ao : Option Addr) (n m A B : Nat), (Instr.sliceBounds true n m (lo.map ac.eval) (hi.map ac.eval) none).run P w = .ok (A, B, m) w →
      (Instr.sliceAt t (.slice ao n m) (lo.map ac.eval) (hi.map ac.eval) none).run P w = .ok (.slice (if m = A then ao else ao.map (·.add (A * P.cellsOf elem))) (B - A) (m - A)) w := by
    intro ao n m A B hb
    simp [Instr.sliceAt, Instr.slice, run_underlying hu, hb, hs]
  split at h
  · rename_i s xs
    split at h
    · rename_i s' A B ps1 ob1 hc
      have fin : ob1 → (∀ e ∈ xs, e.cells.length = P.cellsOf elem) → ob ∧ ∃ z, (Instr.sliceAt t x (lo.map ac.eval) (hi.map ac.eval) none).run P w = .ok z w ∧ X.vr w (.isl s' ((xs.drop A).take (B - A))) z := by
        intro ho hcells
        obtain ⟨h0, hab, hbn, q1, q2, q3, q4⟩ := cutV_ob hc ho
        refine ⟨h0, ?_⟩
        cases vr_isl hx with
        | isl0 _ ao cap =>
          have hb := bounds_run (P := P) (isS := true) (Nat.zero_le cap) hlo hhi hab hbn q1 q2 q3 q4
          refine ⟨_, run ao 0 cap A B hb, ?_⟩
          have hA : A = 0 := by simp at hbn; omega
          have hB : B = 0 := by simp at hbn; omega
          subst hA hB
          exact .imm _ _ (.isl0 _ _ _)
        | isl _ _ b o cap sz c e f xv hcap hown hbk hszs hcc hrr =>
          have hb := bounds_run (P := P) (isS := true) hcap hlo hhi hab hbn q1 q2 q3 q4
          refine ⟨_, run _ _ cap A B hb, ?_⟩
          by_cases hAB : A = B
          · subst hAB
            simp only [Nat.sub_self, List.take_zero]
            exact .imm _ _ (.isl0 _ _ _)
          · have hlen : ((xs.drop A).take (B - A)).length = B - A := by simp; omega
            have hget : ∀ (k : Nat) (e : V), ((xs.drop A).take (B - A))[k]? = some e → xs[A + k]? = some e := by
              intro k e he
              rw [List.getElem?_take] at he
              split at he
              · simpa [List.getElem?_drop] using he
              · cases he
            have hne : ¬ cap = A := by omega
            have hszc : sz = P.cellsOf elem := by
              have hlt : A < xs.length := by omega
              rw [← hszs A _ (List.getElem?_eq_getElem hlt)]
              exact hcells _ (List.getElem_mem hlt)
            subst hszc
            rw [if_neg hne, Option.map_some, add_off]
            have := IR.isl (h := w.heap) (own := X.own) s' ((xs.drop A).take (B - A)) b (o + A * P.cellsOf elem) (cap - A) (P.cellsOf elem) c e f (fun k j => xv (A + k) j) (by rw [hlen]; omega) hown hbk
              (fun k e he => hszs _ e (hget k e he))
              (fun k e j v he hj => by
                have := hcc _ e j v (hget k e he) hj
                rw [← this]; congr 1; rw [Nat.add_mul]; omega)
              (fun k e j v he hj => hrr _ e j v (hget k e he) hj)
            rw [hlen] at this
            exact .imm _ _ this
      split at h
      · cases h
        obtain ⟨h1, h2⟩ := hob
        obtain ⟨h3, h4⟩ := fin h1 h2
        exact ⟨rfl, rfl, h3, h4⟩
      · split at h
        · rename_i hall
          cases h
          obtain ⟨h3, h4⟩ := fin hob (fun e he => by simpa using List.all_eq_true.1 hall e he)
          exact ⟨rfl, rfl, h3, h4⟩
        · cases h
    · cases h
  · rename_i id i len
    split at h
    · rename_i s' A B ps1 ob1 Bk hc hB
      split at h
      · rename_i hsz
        cases h
        obtain ⟨h0, hab, hbn, q1, q2, q3, q4⟩ := cutV_ob hc hob
        obtain ⟨b, s, sz, o, cap, c, e, f, hρ, hle, ho, hb, hcc, rfl⟩ := vr_msl hx
        obtain ⟨b', s0, c', t', hρ', hown, hb', hrow, hty⟩ := hl.real hB hρ
        rw [hρ] at hρ'
        cases hρ'
        have hbr := bounds_run (P := P) (isS := true) hle hlo hhi hab hbn q1 q2 q3 q4
        refine ⟨rfl, rfl, h0, _, run _ _ cap A B hbr, ?_⟩
        by_cases hm : cap = A
        · subst hm
          rw [if_pos rfl]
          exact .msl id _ _ _ b s _ o c e f hρ (by omega) (.inl (by omega)) hb (.inl (by omega))
        · rw [if_neg hm, Option.map_some, add_off]
          have ho' : o = s + i * Bk.sz := ho.resolve_left (by omega)
          have hc' : o + cap * Bk.sz ≤ c.size := hcc.resolve_left (by omega)
          refine .msl id _ _ _ b s _ _ c e f hρ (by omega) (.inr ?_) hb (.inr ?_)
          · rw [ho', ← hsz, Nat.add_mul]; omega
          · rw [← hsz, Nat.sub_mul]
            have : A * Bk.sz ≤ cap * Bk.sz := Nat.mul_le_mul_right _ (by omega)
            omega
      · cases h
    · cases h
  · split at h
    · rename_i s' A B ps1 ob1 hc
      cases h
      obtain ⟨h0, hab, hbn, q1, q2, q3, q4⟩ := cutV_ob hc hob
      rw [vr_nils hx]
      have hbr := bounds_run (P := P) (isS := true) (Nat.le_refl 0) hlo hhi hab hbn q1 q2 q3 q4
      refine ⟨rfl, rfl, h0, _, run _ 0 0 A B hbr, ?_⟩
      have hA : A = 0 := by omega
      have hB : B = 0 := by omega
      subst hA hB
      exact .imm _ _ .nils
    · cases h
  · cases h
theorem cut_run {P : Program} {X : Cr} {w : World} {ac : Act} {t : TypeId} (hu : P.underlying t = some .string) {b : ByteArray} {s : Bool} {lo hi : Option Operand} {vl vh : Option (Bool × Int)}
    (hlo : OptR ac X w lo vl) (hhi : OptR ac X w hi vh) {ps : List Ev} {ob : Prop} {r : Out} (h : opCut b s vl vh ps ob = some r) (hob : r.ob) :
    r.upd = [] ∧ r.new = [] ∧ ob ∧ ∃ z, (Instr.sliceAt t (.string b) (lo.map ac.eval) (hi.map ac.eval) none).run P w = .ok z w ∧ X.vr w r.v z := by
  unfold opCut at h
  split at h
  · rename_i s' A B ps1 ob1 hc
    cases h
    obtain ⟨h0, hab, hbn, q1, q2, q3, q4⟩ := cutV_ob hc hob
    have hbr := bounds_run (P := P) (isS := false) (Nat.le_refl b.size) hlo hhi hab hbn q1 q2 q3 q4
    refine ⟨rfl, rfl, h0, .string (b.extract A B), ?_, .imm _ _ (.str _ _)⟩
    simp [Instr.sliceAt, Instr.slice, run_underlying hu, hbr]
  · cases h
end Go.Im
