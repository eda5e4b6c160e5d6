/- The reference's operations of two spans are the program's. -/
import Derived.Test.YtobomgckeoomkaaSpRF
set_option linter.unusedVariables false
set_option linter.unusedSimpArgs false
set_option maxRecDepth 100000
open Go Go.Im
namespace S
section
variable {a b c d : Int}
theorem wrapR {f1 f0 r1 r0 : Int → Int → Int} {g g' : Int} (z : Int) (h1 : f1 a c = r1 a c) (h0 : f0 a c = r0 a c) (hg : a ≤ b → c ≤ d → g = g') :
    (bif rEmpty a b then z else (bif rEmpty c d then z else (bif a == b then (bif c == d then (bif r1 a c != 0 then z else r0 a c) else g') else g'))) =
    (bif Empty a b then z else (bif Empty c d then z else (bif One_1 a b then (bif One_1 c d then (bif f1 (One_0 a b) (One_0 c d) != 0 then z else f0 (One_0 a b) (One_0 c d)) else g) else g))) := by
  rw [rEmp, rEmp]
  by_cases e1 : b < a
  · rw [bif_t (empT.2 e1), bif_t (empT.2 e1)]
  by_cases e2 : d < c
  · rw [bif_f (empF.2 (by omega)), bif_t (empT.2 e2), bif_f (empF.2 (by omega)), bif_t (empT.2 e2)]
  rw [bif_f (empF.2 (by omega)), bif_f (empF.2 (by omega)), bif_f (empF.2 (by omega)), bif_f (empF.2 (by omega)), one1, one1, ← hg (by omega) (by omega)]
  by_cases h : a = b
  · by_cases h' : c = d
    · have o : One_0 a b = a := one0 h
      have o' : One_0 c d = c := one0 h'
      rw [bif_t (by simpa using h), bif_t (by simpa using h'), decide_eq_true h, decide_eq_true h', o, o', h1, h0]; rfl
    · rw [bif_t (by simpa using h), bif_f (by simpa using h'), decide_eq_true h, decide_eq_false h']; rfl
  · rw [bif_f (by simpa using h), decide_eq_false h]; rfl
theorem endsE {n1 lv : Int → Int → Bool} {J z : Int} (h : ∀ x y, (x = a ∨ x = b) → (y = c ∨ y = d) → lv x y = !n1 x y) :
    (bif !n1 a c then z else (bif !n1 a d then z else (bif !n1 b c then z else (bif !n1 b d then z else J)))) = bif !(bif !lv a c then (bif !lv a d then (bif !lv b c then (!lv b d) else false) else false) else false) then z else J := by
  rw [h a c (.inl rfl) (.inl rfl), h a d (.inl rfl) (.inr rfl), h b c (.inr rfl) (.inl rfl), h b d (.inr rfl) (.inr rfl)]
  cases n1 a c <;> cases n1 a d <;> cases n1 b c <;> cases n1 b d <;> rfl
theorem addE : eadd_0 a b c d = (bif !wiadd a b c d then (-9223372036854775808) else readd_0 a b c d) ∧ eadd_1 a b c d = (bif !wiadd a b c d then 9223372036854775807 else readd_1 a b c d) := by
  have j0 : readd_0 a b c d = J4_0 (nadd_0 a c) (nadd_0 a d) (nadd_0 b c) (nadd_0 b d) := (rj4 _ _ _ _).1
  have j1 : readd_1 a b c d = J4_1 (nadd_0 a c) (nadd_0 a d) (nadd_0 b c) (nadd_0 b d) := (rj4 _ _ _ _).2
  rw [j0, j1]
  exact ⟨endsE (n1 := nadd_1) (lv := lvadd) fun x y _ _ => rfl, endsE (n1 := nadd_1) (lv := lvadd) fun x y _ _ => rfl⟩
theorem subE : esub_0 a b c d = (bif !wisub a b c d then (-9223372036854775808) else resub_0 a b c d) ∧ esub_1 a b c d = (bif !wisub a b c d then 9223372036854775807 else resub_1 a b c d) := by
  have j0 : resub_0 a b c d = J4_0 (nsub_0 a c) (nsub_0 a d) (nsub_0 b c) (nsub_0 b d) := (rj4 _ _ _ _).1
  have j1 : resub_1 a b c d = J4_1 (nsub_0 a c) (nsub_0 a d) (nsub_0 b c) (nsub_0 b d) := (rj4 _ _ _ _).2
  rw [j0, j1]
  exact ⟨endsE (n1 := nsub_1) (lv := lvsub) fun x y _ _ => rfl, endsE (n1 := nsub_1) (lv := lvsub) fun x y _ _ => rfl⟩
theorem mulE (ra : Rg a) (rb : Rg b) (rc : Rg c) (rd : Rg d) : emul_0 a b c d = (bif !wimul a b c d then (-9223372036854775808) else remul_0 a b c d) ∧ emul_1 a b c d = (bif !wimul a b c d then 9223372036854775807 else remul_1 a b c d) := by
  have j0 : remul_0 a b c d = J4_0 (nmul_0 a c) (nmul_0 a d) (nmul_0 b c) (nmul_0 b d) := (rj4 _ _ _ _).1
  have j1 : remul_1 a b c d = J4_1 (nmul_0 a c) (nmul_0 a d) (nmul_0 b c) (nmul_0 b d) := (rj4 _ _ _ _).2
  have h : ∀ x y, (x = a ∨ x = b) → (y = c ∨ y = d) → lvmul x y = !nmul_1 x y := fun x y hx hy => lvmulE (by rcases hx with rfl | rfl <;> assumption) (by rcases hy with rfl | rfl <;> assumption)
  rw [j0, j1]
  exact ⟨endsE (n1 := nmul_1) (lv := lvmul) h, endsE (n1 := nmul_1) (lv := lvmul) h⟩
theorem bquoE (x y : Int) : rBquo_0 x y = Bquo_0 x y := by
  simp only [rBquo_0, Bquo_0, S.q]
  by_cases h : y = 0
  · subst h; rfl
  · have e1 : (y == 0) = false := by simpa using h
    simp only [e1, cond_false]
    by_cases h1 : y = -1
    · subst h1
      have e2 : ((-1 : Int) == -1) = true := rfl
      simp only [e2, cond_true]
      rw [Int.tdiv_neg, Int.tdiv_one]
      congr 1; omega
    · have e2 : (y == -1) = false := by simpa using h1
      simp only [e2, cond_false]
theorem bremE (x y : Int) : rBrem_0 x y = Brem_0 x y := by
  simp only [rBrem_0, Brem_0, S.r]
  by_cases h : y = 0
  · subst h; rfl
  · have e1 : (y == 0) = false := by simpa using h
    simp only [e1, cond_false]
    by_cases h1 : y = -1
    · subst h1
      have e2 : ((-1 : Int) == -1) = true := rfl
      simp only [e2, cond_true]
      rw [Int.tmod_neg, Int.tmod_one]
    · have e2 : (y == -1) = false := by simpa using h1
      simp only [e2, cond_false]
theorem quotE (h : Empty c d = false → (c != 0) = true ∧ (d != 0) = true) : rquot_0 a b c d = quot_0 a b c d ∧ rquot_1 a b c d = quot_1 a b c d := by
  cases he : Empty c d with
  | true => simp only [rquot_0, rquot_1, quot_0, quot_1, rEmp, he, cond_true]; exact ⟨trivial, trivial⟩
  | false =>
    obtain ⟨hc, hd⟩ := h he
    have e : ∀ x y : Int, (y != 0) = true → rBquo_0 x y = S.q x y := fun x y hy => by
      rw [bquoE, Bquo_0, bif_f (by simpa using hy)]
    have j0 : requo_0 a b c d = J4_0 (S.q a c) (S.q a d) (S.q b c) (S.q b d) := by
      rw [← e a c hc, ← e a d hd, ← e b c hc, ← e b d hd]; exact (rj4 _ _ _ _).1
    have j1 : requo_1 a b c d = J4_1 (S.q a c) (S.q a d) (S.q b c) (S.q b d) := by
      rw [← e a c hc, ← e a d hd, ← e b c hc, ← e b d hd]; exact (rj4 _ _ _ _).2
    simp only [rquot_0, rquot_1, quot_0, quot_1, rEmp, rHasE, he, cond_false, j0, j1]
    cases Has a b (-9223372036854775808) <;> cases Has c d (-1) <;> exact ⟨rfl, rfl⟩
theorem brightE {x y : Int} (h : 0 ≤ y) (h' : y ≤ 63) : rBright_0 x y = nright_0 x y := by
  have n1 : decide (y < 0) = false := by simpa using h
  have n2 : decide (y > 63) = false := by simpa using h'
  simp only [rBright_0, n1, n2, cond_false]; rfl
theorem erightE (hc : 0 ≤ c) (hc' : c ≤ 63) (hd : 0 ≤ d) (hd' : d ≤ 63) : reright_0 a b c d = eright_0 a b c d ∧ reright_1 a b c d = eright_1 a b c d := by
  have j0 : reright_0 a b c d = J4_0 (rBright_0 a c) (rBright_0 a d) (rBright_0 b c) (rBright_0 b d) := (rj4 _ _ _ _).1
  have j1 : reright_1 a b c d = J4_1 (rBright_0 a c) (rBright_0 a d) (rBright_0 b c) (rBright_0 b d) := (rj4 _ _ _ _).2
  rw [j0, j1, brightE hc hc', brightE hd hd', brightE hc hc', brightE hd hd']
  exact ⟨rfl, rfl⟩
theorem meet63 : (Meet_0 c d 0 63 = 1 ∧ Meet_1 c d 0 63 = 0) ∨ (0 ≤ Meet_0 c d 0 63 ∧ Meet_0 c d 0 63 ≤ Meet_1 c d 0 63 ∧ Meet_1 c d 0 63 ≤ 63) := by
  simp only [meet0, meet1]; split <;> omega
theorem shrE : shr_0 a b c d = rshr_0 a b c d ∧ shr_1 a b c d = rshr_1 a b c d := by
  simp only [shr_0, shr_1, rshr_0, rshr_1, rEmp, rMeet0, rMeet1]
  have := meet63 (c := c) (d := d)
  generalize Meet_0 c d 0 63 = x at *
  generalize Meet_1 c d 0 63 = y at *
  rcases this with ⟨rfl, rfl⟩ | ⟨h1, h2, h3⟩
  · exact ⟨rfl, rfl⟩
  · obtain ⟨e0, e1⟩ := erightE (a := a) (b := b) h1 (show x ≤ 63 by omega) (show 0 ≤ y by omega) h3
    rw [bif_f (empF.2 h2), bif_f (empF.2 h2), bif_f (empF.2 h2), bif_f (empF.2 h2), e0, e1]
    exact ⟨rfl, rfl⟩
theorem shlE (ra : Rg a) (rb : Rg b) : shl_0 a b c d = rshl_0 a b c d ∧ shl_1 a b c d = rshl_1 a b c d := by
  simp only [shl_0, shl_1, rshl_0, rshl_1, rEmp, rMeet0, rMeet1]
  have := meet63 (c := c) (d := d)
  generalize Meet_0 c d 0 63 = x at *
  generalize Meet_1 c d 0 63 = y at *
  rcases this with ⟨rfl, rfl⟩ | ⟨h1, h2, h3⟩
  · exact ⟨rfl, rfl⟩
  · rw [bif_f (empF.2 h2), bif_f (empF.2 h2), bif_f (empF.2 h2), bif_f (empF.2 h2), one1]
    by_cases hxy : x = y
    · subst hxy
      have o : One_0 x x = x := one0 rfl
      have n1 : (x != x) = false := by simp
      rw [o, decide_eq_true rfl, n1]
      simp only [Bool.not_true, cond_false, Of_0, Of_1]
      have rw' : Rg (IntKind.wrap .i64 (1 * 2 ^ min (Int.toNat (IntKind.wrap .u64 x)) (IntKind.bits .i64))) := wI_rg _
      obtain ⟨e0, e1⟩ := mulE ra rb rw' rw'
      rw [e0, e1]
      exact ⟨rfl, rfl⟩
    · have n1 : (x != y) = true := by simpa using hxy
      rw [decide_eq_false hxy, n1]
      exact ⟨rfl, rfl⟩
theorem ceqE : ceq_0 a b c d = rceq_0 a b c d ∧ ceq_1 a b c d = rceq_1 a b c d := by
  have hm : (!Empty (Meet_0 a b c d) (Meet_1 a b c d)) = decide (max a c ≤ min b d) := by
    rw [meet0, meet1]
    by_cases h : min b d < max a c
    · rw [if_pos h, if_pos h, decide_eq_false (by omega)]; rfl
    · rw [if_neg h, if_neg h, decide_eq_true (by omega)]; simp [Empty]; omega
  simp only [ceq_0, ceq_1, rceq_0, rceq_1, rtold0, rtold1, rEmp, rMeet0, rMeet1, hm, told0, told1]
  have e1 : (a == c && (b == d && true)) = decide (a = c ∧ b = d) := by
    by_cases h1 : a = c <;> by_cases h2 : b = d <;> simp [h1, h2]
  rw [e1]
  by_cases k1 : a = b <;> by_cases k2 : c = d <;> by_cases k3 : a = c <;> by_cases k4 : b = d <;> simp [k1, k2, k3, k4, Bool.cond_eq_ite] <;> (try omega) <;> (repeat' split) <;> (try omega) <;> simp_all <;> omega
theorem cneE : cne_0 a b c d = rcne_0 a b c d ∧ cne_1 a b c d = rcne_1 a b c d := by
  have hm : (!Empty (Meet_0 a b c d) (Meet_1 a b c d)) = decide (max a c ≤ min b d) := by
    rw [meet0, meet1]
    by_cases h : min b d < max a c
    · rw [if_pos h, if_pos h, decide_eq_false (by omega)]; rfl
    · rw [if_neg h, if_neg h, decide_eq_true (by omega)]; simp [Empty]; omega
  simp only [cne_0, cne_1, rcne_0, rcne_1, rtold0, rtold1, rEmp, rMeet0, rMeet1, hm, told0, told1]
  have e1 : (a == c && (b == d && true)) = decide (a = c ∧ b = d) := by
    by_cases h1 : a = c <;> by_cases h2 : b = d <;> simp [h1, h2]
  rw [e1]
  by_cases k1 : a = b <;> by_cases k2 : c = d <;> by_cases k3 : a = c <;> by_cases k4 : b = d <;> simp [k1, k2, k3, k4, Bool.cond_eq_ite] <;> (try omega) <;> (repeat' split) <;> (try omega) <;> simp_all <;> omega
theorem tr01 (h : a ≤ b) : (Truth_0 a b = 0 ∨ Truth_0 a b = 1) ∧ (Truth_1 a b = 0 ∨ Truth_1 a b = 1) := by
  rw [truth0 h, truth1 h]; constructor <;> split <;> simp
theorem lbothE (h : a ≤ b) (h' : c ≤ d) : lboth_0 a b c d = rcboth_0 a b c d ∧ lboth_1 a b c d = rcboth_1 a b c d := by
  obtain ⟨x0, x1⟩ := tr01 h
  obtain ⟨y0, y1⟩ := tr01 h'
  simp only [lboth_0, lboth_1, rcboth_0, rcboth_1, rTruth0, rTruth1]
  rcases x0 with x0 | x0 <;> rcases x1 with x1 | x1 <;> rcases y0 with y0 | y0 <;> rcases y1 with y1 | y1 <;> rw [x0, x1, y0, y1] <;> decide
theorem loneE (h : a ≤ b) (h' : c ≤ d) : lone_0 a b c d = rcone_0 a b c d ∧ lone_1 a b c d = rcone_1 a b c d := by
  obtain ⟨x0, x1⟩ := tr01 h
  obtain ⟨y0, y1⟩ := tr01 h'
  simp only [lone_0, lone_1, rcone_0, rcone_1, rTruth0, rTruth1]
  rcases x0 with x0 | x0 <;> rcases x1 with x1 | x1 <;> rcases y0 with y0 | y0 <;> rcases y1 with y1 | y1 <;> rw [x0, x1, y0, y1] <;> decide
theorem quoE : Join_0 (quot_0 a b (Meet_0 c d (-9223372036854775808) (-1)) (Meet_1 c d (-9223372036854775808) (-1))) (quot_1 a b (Meet_0 c d (-9223372036854775808) (-1)) (Meet_1 c d (-9223372036854775808) (-1))) (quot_0 a b (Meet_0 c d 1 9223372036854775807) (Meet_1 c d 1 9223372036854775807)) (quot_1 a b (Meet_0 c d 1 9223372036854775807) (Meet_1 c d 1 9223372036854775807)) =
      rJoin_0 (rquot_0 a b (rMeet_0 c d (-9223372036854775808) (-1)) (rMeet_1 c d (-9223372036854775808) (-1))) (rquot_1 a b (rMeet_0 c d (-9223372036854775808) (-1)) (rMeet_1 c d (-9223372036854775808) (-1))) (rquot_0 a b (rMeet_0 c d 1 9223372036854775807) (rMeet_1 c d 1 9223372036854775807)) (rquot_1 a b (rMeet_0 c d 1 9223372036854775807) (rMeet_1 c d 1 9223372036854775807)) ∧
    Join_1 (quot_0 a b (Meet_0 c d (-9223372036854775808) (-1)) (Meet_1 c d (-9223372036854775808) (-1))) (quot_1 a b (Meet_0 c d (-9223372036854775808) (-1)) (Meet_1 c d (-9223372036854775808) (-1))) (quot_0 a b (Meet_0 c d 1 9223372036854775807) (Meet_1 c d 1 9223372036854775807)) (quot_1 a b (Meet_0 c d 1 9223372036854775807) (Meet_1 c d 1 9223372036854775807)) =
      rJoin_1 (rquot_0 a b (rMeet_0 c d (-9223372036854775808) (-1)) (rMeet_1 c d (-9223372036854775808) (-1))) (rquot_1 a b (rMeet_0 c d (-9223372036854775808) (-1)) (rMeet_1 c d (-9223372036854775808) (-1))) (rquot_0 a b (rMeet_0 c d 1 9223372036854775807) (rMeet_1 c d 1 9223372036854775807)) (rquot_1 a b (rMeet_0 c d 1 9223372036854775807) (rMeet_1 c d 1 9223372036854775807)) := by
  simp only [rJoin0, rJoin1, rMeet0, rMeet1]
  obtain ⟨n0, n1⟩ := quotE (a := a) (b := b) (meet_neg c d)
  obtain ⟨p0, p1⟩ := quotE (a := a) (b := b) (meet_pos c d)
  rw [n0, n1, p0, p1]
  exact ⟨rfl, rfl⟩
end
theorem e_Bone {a b c d : Int} (ra : Rg a) (rb : Rg b) (rc : Rg c) (rd : Rg d) : RSone_0 a b c d = Sone_0 a b c d ∧ RSone_1 a b c d = Sone_1 a b c d :=
  ⟨wrapR (f1 := Bone_1) (f0 := Bone_0) (r1 := rBone_1) (r0 := rBone_0) 1 rfl (rfl) (fun x y => (loneE x y).1), wrapR (f1 := Bone_1) (f0 := Bone_0) (r1 := rBone_1) (r0 := rBone_0) 0 rfl (rfl) (fun x y => (loneE x y).2)⟩
theorem e_Bboth {a b c d : Int} (ra : Rg a) (rb : Rg b) (rc : Rg c) (rd : Rg d) : RSboth_0 a b c d = Sboth_0 a b c d ∧ RSboth_1 a b c d = Sboth_1 a b c d :=
  ⟨wrapR (f1 := Bboth_1) (f0 := Bboth_0) (r1 := rBboth_1) (r0 := rBboth_0) 1 rfl (rfl) (fun x y => (lbothE x y).1), wrapR (f1 := Bboth_1) (f0 := Bboth_0) (r1 := rBboth_1) (r0 := rBboth_0) 0 rfl (rfl) (fun x y => (lbothE x y).2)⟩
theorem e_Band {a b c d : Int} (ra : Rg a) (rb : Rg b) (rc : Rg c) (rd : Rg d) : RSand_0 a b c d = Sand_0 a b c d ∧ RSand_1 a b c d = Sand_1 a b c d :=
  ⟨wrapR (f1 := Band_1) (f0 := Band_0) (r1 := rBand_1) (r0 := rBand_0) 1 rfl (rfl) (fun _ _ => rfl), wrapR (f1 := Band_1) (f0 := Band_0) (r1 := rBand_1) (r0 := rBand_0) 0 rfl (rfl) (fun _ _ => rfl)⟩
theorem e_Beq {a b c d : Int} (ra : Rg a) (rb : Rg b) (rc : Rg c) (rd : Rg d) : RSeql_0 a b c d = Seql_0 a b c d ∧ RSeql_1 a b c d = Seql_1 a b c d :=
  ⟨wrapR (f1 := Beq_1) (f0 := Beq_0) (r1 := rBeq_1) (r0 := rBeq_0) 1 rfl (rfl) (fun _ _ => ceqE.1), wrapR (f1 := Beq_1) (f0 := Beq_0) (r1 := rBeq_1) (r0 := rBeq_0) 0 rfl (rfl) (fun _ _ => ceqE.2)⟩
theorem e_Bne {a b c d : Int} (ra : Rg a) (rb : Rg b) (rc : Rg c) (rd : Rg d) : RSneq_0 a b c d = Sneq_0 a b c d ∧ RSneq_1 a b c d = Sneq_1 a b c d :=
  ⟨wrapR (f1 := Bne_1) (f0 := Bne_0) (r1 := rBne_1) (r0 := rBne_0) 1 rfl (rfl) (fun _ _ => cneE.1), wrapR (f1 := Bne_1) (f0 := Bne_0) (r1 := rBne_1) (r0 := rBne_0) 0 rfl (rfl) (fun _ _ => cneE.2)⟩
theorem e_Blt {a b c d : Int} (ra : Rg a) (rb : Rg b) (rc : Rg c) (rd : Rg d) : RSlth_0 a b c d = Slth_0 a b c d ∧ RSlth_1 a b c d = Slth_1 a b c d :=
  ⟨wrapR (f1 := Blt_1) (f0 := Blt_0) (r1 := rBlt_1) (r0 := rBlt_0) 1 rfl (rfl) (fun _ _ => (rtold0 _ _).symm), wrapR (f1 := Blt_1) (f0 := Blt_0) (r1 := rBlt_1) (r0 := rBlt_0) 0 rfl (rfl) (fun _ _ => (rtold1 _ _).symm)⟩
theorem e_Ble {a b c d : Int} (ra : Rg a) (rb : Rg b) (rc : Rg c) (rd : Rg d) : RSleq_0 a b c d = Sleq_0 a b c d ∧ RSleq_1 a b c d = Sleq_1 a b c d :=
  ⟨wrapR (f1 := Ble_1) (f0 := Ble_0) (r1 := rBle_1) (r0 := rBle_0) 1 rfl (rfl) (fun _ _ => (rtold0 _ _).symm), wrapR (f1 := Ble_1) (f0 := Ble_0) (r1 := rBle_1) (r0 := rBle_0) 0 rfl (rfl) (fun _ _ => (rtold1 _ _).symm)⟩
theorem e_Bgt {a b c d : Int} (ra : Rg a) (rb : Rg b) (rc : Rg c) (rd : Rg d) : RSgth_0 a b c d = Sgth_0 a b c d ∧ RSgth_1 a b c d = Sgth_1 a b c d :=
  ⟨wrapR (f1 := Bgt_1) (f0 := Bgt_0) (r1 := rBgt_1) (r0 := rBgt_0) 1 rfl (rfl) (fun _ _ => (rtold0 _ _).symm), wrapR (f1 := Bgt_1) (f0 := Bgt_0) (r1 := rBgt_1) (r0 := rBgt_0) 0 rfl (rfl) (fun _ _ => (rtold1 _ _).symm)⟩
theorem e_Bge {a b c d : Int} (ra : Rg a) (rb : Rg b) (rc : Rg c) (rd : Rg d) : RSgeq_0 a b c d = Sgeq_0 a b c d ∧ RSgeq_1 a b c d = Sgeq_1 a b c d :=
  ⟨wrapR (f1 := Bge_1) (f0 := Bge_0) (r1 := rBge_1) (r0 := rBge_0) 1 rfl (rfl) (fun _ _ => (rtold0 _ _).symm), wrapR (f1 := Bge_1) (f0 := Bge_0) (r1 := rBge_1) (r0 := rBge_0) 0 rfl (rfl) (fun _ _ => (rtold1 _ _).symm)⟩
theorem e_Bleft {a b c d : Int} (ra : Rg a) (rb : Rg b) (rc : Rg c) (rd : Rg d) : RSleft_0 a b c d = Sleft_0 a b c d ∧ RSleft_1 a b c d = Sleft_1 a b c d :=
  ⟨wrapR (f1 := Bleft_1) (f0 := Bleft_0) (r1 := rBleft_1) (r0 := rBleft_0) 1 rfl (rfl) (fun _ _ => (shlE ra rb).1), wrapR (f1 := Bleft_1) (f0 := Bleft_0) (r1 := rBleft_1) (r0 := rBleft_0) 0 rfl (rfl) (fun _ _ => (shlE ra rb).2)⟩
theorem e_Bright {a b c d : Int} (ra : Rg a) (rb : Rg b) (rc : Rg c) (rd : Rg d) : RSright_0 a b c d = Sright_0 a b c d ∧ RSright_1 a b c d = Sright_1 a b c d :=
  ⟨wrapR (f1 := Bright_1) (f0 := Bright_0) (r1 := rBright_1) (r0 := rBright_0) 1 rfl (rfl) (fun _ _ => shrE.1), wrapR (f1 := Bright_1) (f0 := Bright_0) (r1 := rBright_1) (r0 := rBright_0) 0 rfl (rfl) (fun _ _ => shrE.2)⟩
theorem e_Badd {a b c d : Int} (ra : Rg a) (rb : Rg b) (rc : Rg c) (rd : Rg d) : RSadd_0 a b c d = Sadd_0 a b c d ∧ RSadd_1 a b c d = Sadd_1 a b c d :=
  ⟨wrapR (f1 := Badd_1) (f0 := Badd_0) (r1 := rBadd_1) (r0 := rBadd_0) 1 rfl (rfl) (fun _ _ => addE.1), wrapR (f1 := Badd_1) (f0 := Badd_0) (r1 := rBadd_1) (r0 := rBadd_0) 0 rfl (rfl) (fun _ _ => addE.2)⟩
theorem e_Bsub {a b c d : Int} (ra : Rg a) (rb : Rg b) (rc : Rg c) (rd : Rg d) : RSsub_0 a b c d = Ssub_0 a b c d ∧ RSsub_1 a b c d = Ssub_1 a b c d :=
  ⟨wrapR (f1 := Bsub_1) (f0 := Bsub_0) (r1 := rBsub_1) (r0 := rBsub_0) 1 rfl (rfl) (fun _ _ => subE.1), wrapR (f1 := Bsub_1) (f0 := Bsub_0) (r1 := rBsub_1) (r0 := rBsub_0) 0 rfl (rfl) (fun _ _ => subE.2)⟩
theorem e_Bmul {a b c d : Int} (ra : Rg a) (rb : Rg b) (rc : Rg c) (rd : Rg d) : RSmul_0 a b c d = Smul_0 a b c d ∧ RSmul_1 a b c d = Smul_1 a b c d :=
  ⟨wrapR (f1 := Bmul_1) (f0 := Bmul_0) (r1 := rBmul_1) (r0 := rBmul_0) 1 rfl (rfl) (fun _ _ => (mulE ra rb rc rd).1), wrapR (f1 := Bmul_1) (f0 := Bmul_0) (r1 := rBmul_1) (r0 := rBmul_0) 0 rfl (rfl) (fun _ _ => (mulE ra rb rc rd).2)⟩
theorem e_Bquo {a b c d : Int} (ra : Rg a) (rb : Rg b) (rc : Rg c) (rd : Rg d) : RSquo_0 a b c d = Squo_0 a b c d ∧ RSquo_1 a b c d = Squo_1 a b c d :=
  ⟨wrapR (f1 := Bquo_1) (f0 := Bquo_0) (r1 := rBquo_1) (r0 := rBquo_0) 1 rfl ((bquoE _ _).symm) (fun _ _ => quoE.1), wrapR (f1 := Bquo_1) (f0 := Bquo_0) (r1 := rBquo_1) (r0 := rBquo_0) 0 rfl ((bquoE _ _).symm) (fun _ _ => quoE.2)⟩
theorem e_Brem {a b c d : Int} (ra : Rg a) (rb : Rg b) (rc : Rg c) (rd : Rg d) : RSrem_0 a b c d = Srem_0 a b c d ∧ RSrem_1 a b c d = Srem_1 a b c d :=
  ⟨wrapR (f1 := Bquo_1) (f0 := Brem_0) (r1 := rBrem_1) (r0 := rBrem_0) 1 rfl ((bremE _ _).symm) (fun _ _ => (rrestE ra rb rc rd).1), wrapR (f1 := Bquo_1) (f0 := Brem_0) (r1 := rBrem_1) (r0 := rBrem_0) 0 rfl ((bremE _ _).symm) (fun _ _ => (rrestE ra rb rc rd).2)⟩
end S
