/- The ideal machine: operations that touch no memory. -/
import Derived.Test.YtalnancndjgmgaaGreatDoorImOpC
import Derived.Laws.StructEq
import Derived.LaidEqlPtr
set_option linter.unusedSimpArgs false
namespace Go.Im
theorem pureRun_run {α : Type} {P : Program} {s : Sem α} {a : α} (h : pureRun P s = some a) (w : World) : s.run P w = .ok a w := by
  induction s with
  | pure x => simp [pureRun] at h; subst h; rfl
  | program k ih => simp only [pureRun] at h; simp only [Sem.run]; exact ih P h
  | _ => simp [pureRun] at h
theorem toScalar_vr {h : Array Obj} {own : Nat → Prop} {ρ : Rho} {v : V} {s : Bool} {a x : Value} (e : toScalar v = some (s, a)) (hv : VR h own ρ v x) : x = a := by
  unfold toScalar at e
  split at e
  · cases e; exact vr_bool hv
  · cases e; exact vr_int hv
  · cases e; exact vr_str hv
  · cases e
theorem mark_ir {h : Array Obj} {own : Nat → Prop} {v : V} {x : Value} (s : Bool) (hv : IR h own v x) : IR h own (mark s v) x := by
  cases hv <;> first | exact .bool s _ | exact .int s _ _ | exact .str s _ | (simp only [mark]; constructor <;> assumption)
theorem part_val {P : Program} {X : Cr} {w w0 : World} {t : TypeId} {cs : List V} {v : V} {off : Nat} {xs : Array Value} (hp : partOf P t (.agg cs) off = some v)
    (hl : cs.length = xs.size) (hr : ∀ (j : Nat) (u : V) (y : Value), cs[j]? = some u → xs[j]? = some y → X.vr w0 u y) : ∃ y, (part t xs off).run P w = .ok y w ∧ X.vr w0 v y := by
  unfold partOf at hp
  cases hu : P.underlying t with
  | none => simp [hu] at hp
  | some d =>
    simp only [hu] at hp
    simp only [part, Sem.run_bind, run_isAgg' hu, Result.andThen_ok]
    cases hd : aggD d with
    | true =>
      simp only [hd] at hp
      split at hp
      · rename_i hle
        cases hp
        have hsz := run_sizeOf' (P := P) (t := t) (by obtain ⟨i, hi⟩ := info_of_underlying hu; simp [hi]) w
        refine ⟨.agg (xs.extract off (off + P.cellsOf t)), by simp only [if_true, Sem.run_bind, hsz, Result.andThen_ok, Sem.run_pure], ?_⟩
        refine .agg _ _ (by simp; omega) fun j u y hj hy => ?_
        have hjl : j < P.cellsOf t := by
          have := (List.getElem?_eq_some_iff.1 hj).1
          simp at this; omega
        have hcs : cs[off + j]? = some u := by simpa [List.getElem?_take, List.getElem?_drop, hjl] using hj
        refine hr (off + j) u y hcs ?_
        rw [Array.getElem?_extract] at hy
        split at hy
        · exact hy
        · cases hy
      · cases hp
    | false =>
      simp only [hd] at hp
      simp only [V.cells] at hp
      have hlt : off < cs.length := (List.getElem?_eq_some_iff.1 hp).1
      have hx : xs[off]? = some xs[off] := Array.getElem?_eq_getElem (hl ▸ hlt)
      exact ⟨xs[off], by simp [hx], hr off v _ hp hx⟩
theorem vr_ifc {h : Array Obj} {own : Nat → Prop} {ρ : Rho} {t : TypeId} {v : V} {x : Value} (hv : VR h own ρ (.ifc t v) x) : ∃ y, x = .iface t y ∧ VR h own ρ v y := by
  cases hv with
  | imm _ _ hi => cases hi with | ifc _ _ y hr => exact ⟨y, rfl, .imm _ _ hr⟩
  | ifc _ _ y hr => exact ⟨y, rfl, hr⟩
theorem eqF_run {P : Program} {X : Cr} {w w0 : World} {d : Nat} {cs ds : List V} {xs ys : Array Value} (g : TypeId → V → V → Option (Bool × Bool))
    (hl : cs.length = xs.size) (hr : ∀ (j : Nat) (u : V) (y : Value), cs[j]? = some u → xs[j]? = some y → X.vr w0 u y)
    (hl' : ds.length = ys.size) (hr' : ∀ (j : Nat) (u : V) (y : Value), ds[j]? = some u → ys[j]? = some y → X.vr w0 u y)
    (ih : ∀ (t : TypeId) (a b : V) (s r : Bool) (x y : Value), g t a b = some (s, r) → X.vr w0 a x → X.vr w0 b y → (Op.equalIn d t x y).run P w = .ok r w) :
    ∀ (fs : List Field) (s r : Bool), eqF g P (.agg cs) (.agg ds) fs = some (s, r) → (Op.eqFields d xs ys fs).run P w = .ok r w
  | [], s, r, h => by simp only [eqF] at h; cases h; rfl
  | f :: fs, s, r, h => by
    simp only [eqF] at h
    by_cases hf : f.name = "_"
    · rw [if_pos hf] at h
      simp only [Op.eqFields, hf, ne_eq, not_true_eq_false, if_false]
      exact eqF_run g hl hr hl' hr' ih fs s r h
    · rw [if_neg hf] at h
      split at h
      · rename_i a b ha hb
        split at h
        · rename_i s1 r1 s2 r2 h1 h2
          cases h
          obtain ⟨x, hx, hvx⟩ := part_val (w := w) ha hl hr
          obtain ⟨y, hy, hvy⟩ := part_val (w := w) hb hl' hr'
          have h3 := ih f.type a b s1 r1 x y h1 hvx hvy
          have h4 := eqF_run g hl hr hl' hr' ih fs s2 r2 h2
          simp only [Op.eqFields, hf, ne_eq, not_false_eq_true, if_true, Sem.run_bind, hx, hy, h3, Result.andThen_ok]
          cases r1
          · simp
          · simpa using h4
        · cases h
      · cases h
theorem eqT_run {P : Program} {X : Cr} {w w0 : World} : ∀ (d : Nat) (t : TypeId) (a b : V) (s r : Bool) (x y : Value), eqT P d t a b = some (s, r) → X.vr w0 a x → X.vr w0 b y →
    (Op.equalIn d t x y).run P w = .ok r w
  | 0, _, _, _, _, _, _, _, h, _, _ => by cases h
  | d + 1, t, a, b, s, r, x, y, h, hx, hy => by
    simp only [eqT] at h
    split at h
    case h_18 =>
      rename_i fs cs ds hu
      split at h
      · cases h
      · rename_i hsi
        obtain ⟨xs, rfl, hl, hr⟩ := vr_agg hx
        obtain ⟨ys, rfl, hl', hr'⟩ := vr_agg hy
        have hfo : P.fieldsOf t = fs := by simp [Program.fieldsOf, hu]
        rw [run_equalIn_struct w d t xs ys (by rw [hfo]; exact hu) (by simpa using hsi), hfo]
        exact eqF_run (eqT P d) hl hr hl' hr' (fun t a b s r x y h hx hy => eqT_run d t a b s r x y h hx hy) fs.toList s r h
    case h_19 => cases h
    case h_1 => rename_i hu; cases h; rw [vr_bool hx, vr_bool hy]; simp [Op.equalIn, run_underlying hu]
    case h_2 =>
      rename_i hu
      split at h
      · cases h; rw [vr_int hx, vr_int hy]; simp [Op.equalIn, run_underlying hu, *]
      · cases h
    case h_3 => rename_i hu; cases h; rw [vr_str hx, vr_str hy]; exact run_equalIn_string w d t _ _ hu
    case h_4 => rename_i hu; cases h; rw [vr_nilp hx, vr_nilp hy]; simp [Op.equalIn, run_underlying hu]
    case h_5 =>
      rename_i te i a1 b1 i' a' b' hu
      split at h
      · rename_i hc
        obtain ⟨rfl, rfl, rfl, hinfo⟩ := hc
        cases h
        obtain ⟨j, hj⟩ := Option.isSome_iff_exists.1 hinfo
        obtain ⟨b, o, z, hρ, rfl⟩ := vr_mptr hx
        obtain ⟨b', o', z', hρ', rfl⟩ := vr_mptr hy
        rw [hρ] at hρ'
        cases hρ'
        simp [Op.equalIn, run_underlying hu, sizeOf, typeInfo, hj, run_sameAddr_same]
      · cases h
    case h_6 => rename_i hu; cases h; obtain ⟨b, o, rfl, _⟩ := iptr_mem (vr_iptr hx); rw [vr_nilp hy]; simp [Op.equalIn, run_underlying hu]
    case h_7 => rename_i hu; cases h; obtain ⟨b, o, rfl, _⟩ := iptr_mem (vr_iptr hy); rw [vr_nilp hx]; simp [Op.equalIn, run_underlying hu]
    case h_8 => rename_i hu; cases h; obtain ⟨b, o, z, _, rfl⟩ := vr_mptr hx; rw [vr_nilp hy]; simp [Op.equalIn, run_underlying hu]
    case h_9 => rename_i hu; cases h; obtain ⟨b, o, z, _, rfl⟩ := vr_mptr hy; rw [vr_nilp hx]; simp [Op.equalIn, run_underlying hu]
    case h_10 => rename_i hu; cases h; rw [vr_nils hx, vr_nils hy]; simp [Op.equalIn, run_underlying hu]
    case h_11 => rename_i hu; cases h; obtain ⟨b, s, sz, o, cap, c, e, f, _, _, _, _, _, rfl⟩ := vr_msl hx; rw [vr_nils hy]; simp [Op.equalIn, run_underlying hu]
    case h_12 => rename_i hu; cases h; obtain ⟨b, s, sz, o, cap, c, e, f, _, _, _, _, _, rfl⟩ := vr_msl hy; rw [vr_nils hx]; simp [Op.equalIn, run_underlying hu]
    case h_13 => rename_i hu; cases h; rw [vr_nilf hx, vr_nilf hy]; simp [Op.equalIn, run_underlying hu]
    case h_14 => rename_i hu; cases h; obtain ⟨xs, ys, rfl, _⟩ := vr_fn hx; rw [vr_nilf hy]; simp [Op.equalIn, run_underlying hu]
    case h_15 => rename_i hu; cases h; obtain ⟨xs, ys, rfl, _⟩ := vr_fn hy; rw [vr_nilf hx]; simp [Op.equalIn, run_underlying hu]
    case h_16 => rename_i hu; cases h; obtain ⟨z, rfl, _⟩ := vr_ifc hx; rw [vr_nili hy]; simp [Op.equalIn, run_underlying hu]
    case h_17 => rename_i hu; cases h; obtain ⟨z, rfl, _⟩ := vr_ifc hy; rw [vr_nili hx]; simp [Op.equalIn, run_underlying hu]
theorem eqT_shape {P : Program} {X : Cr} {w : World} {d : Nat} {t : TypeId} {a b : V} {r : Bool × Bool} {x y : Value} {xo yo : Operand} (h : eqT P d t a b = some r) (hn : ∀ p q, toScalar a = some p → toScalar b = some q → False)
    (hx : X.vr w a x) (hy : X.vr w b y) (hg : guardOk P t a = true) :
    (binOp .eql t x y = do pure (.bool (← Op.equal t x y))) ∧ (binOp .neq t x y = do pure (.bool (!(← Op.equal t x y)))) ∧ ∀ op, (eqGuard op t xo yo x y).run P w = .ok () w := by
  cases d with
  | zero => cases h
  | succ d =>
    simp only [eqT] at h
    split at h
    case h_18 =>
      obtain ⟨xs, rfl, hl, hr⟩ := vr_agg hx
      obtain ⟨ys, rfl, hl', hr'⟩ := vr_agg hy
      exact ⟨rfl, rfl, fun op => run_eqGuard_agg w op t xo yo xs ys (by simpa [guardOk] using hg)⟩
    case h_19 => cases h
    case h_1 => exact (hn _ _ rfl rfl).elim
    case h_2 => exact (hn _ _ rfl rfl).elim
    case h_3 => exact (hn _ _ rfl rfl).elim
    case h_4 => rw [vr_nilp hx, vr_nilp hy]; exact ⟨rfl, rfl, fun op => by rw [eqGuard_at_pointer]; rfl⟩
    case h_5 =>
      obtain ⟨b, o, z, hρ, rfl⟩ := vr_mptr hx
      obtain ⟨b', o', z', hρ', rfl⟩ := vr_mptr hy
      exact ⟨rfl, rfl, fun op => by rw [eqGuard_at_pointer]; rfl⟩
    case h_6 => obtain ⟨b, o, rfl, _⟩ := iptr_mem (vr_iptr hx); rw [vr_nilp hy]; exact ⟨rfl, rfl, fun op => by rw [eqGuard_at_pointer]; rfl⟩
    case h_7 => obtain ⟨b, o, rfl, _⟩ := iptr_mem (vr_iptr hy); rw [vr_nilp hx]; exact ⟨rfl, rfl, fun op => by rw [eqGuard_at_pointer]; rfl⟩
    case h_8 => obtain ⟨b, o, z, _, rfl⟩ := vr_mptr hx; rw [vr_nilp hy]; exact ⟨rfl, rfl, fun op => by rw [eqGuard_at_pointer]; rfl⟩
    case h_9 => obtain ⟨b, o, z, _, rfl⟩ := vr_mptr hy; rw [vr_nilp hx]; exact ⟨rfl, rfl, fun op => by rw [eqGuard_at_pointer]; rfl⟩
    case h_10 => rw [vr_nils hx, vr_nils hy]; exact ⟨rfl, rfl, fun op => by rw [eqGuard_at_slice]; rfl⟩
    case h_11 => obtain ⟨b, s, sz, o, cap, c, e, f, _, _, _, _, _, rfl⟩ := vr_msl hx; rw [vr_nils hy]; exact ⟨rfl, rfl, fun op => by rw [eqGuard_at_slice]; rfl⟩
    case h_12 => obtain ⟨b, s, sz, o, cap, c, e, f, _, _, _, _, _, rfl⟩ := vr_msl hy; rw [vr_nils hx]; exact ⟨rfl, rfl, fun op => by rw [eqGuard_at_slice]; rfl⟩
    case h_13 => rw [vr_nilf hx, vr_nilf hy]; exact ⟨rfl, rfl, fun op => by rw [eqGuard_at_nilFunc]; rfl⟩
    case h_14 => obtain ⟨xs, ys, rfl, _⟩ := vr_fn hx; rw [vr_nilf hy]; exact ⟨rfl, rfl, fun op => by rw [eqGuard_at_func]; rfl⟩
    case h_15 => obtain ⟨xs, ys, rfl, _⟩ := vr_fn hy; rw [vr_nilf hx]; exact ⟨rfl, rfl, fun op => by rw [eqGuard_at_nilFunc]; rfl⟩
    case h_16 => obtain ⟨z, rfl, _⟩ := vr_ifc hx; rw [vr_nili hy]; exact ⟨rfl, rfl, fun op => by rw [eqGuard_at_iface]; rfl⟩
    case h_17 => obtain ⟨z, rfl, _⟩ := vr_ifc hy; rw [vr_nili hx]; exact ⟨rfl, rfl, fun op => by rw [eqGuard_nil_iface]; rfl⟩
theorem binOp_res {P : Program} {op : BinOp} {t : TypeId} {u v : V} {s s' : Bool} {a b : Value} {k : IntKind} {n : Int} (ha : toScalar u = some (s, a)) (hb : toScalar v = some (s', b)) (har : arithOp op = true)
    (h : pureRun P (binOp op t a b) = some (.int k n)) : inK k n = true := by
  have ha' : (∃ x, a = .bool x) ∨ (∃ k x, a = .int k x) ∨ ∃ x, a = .string x := by
    unfold toScalar at ha; split at ha <;> cases ha <;> simp
  have hb' : (∃ x, b = .bool x) ∨ (∃ k x, b = .int k x) ∨ ∃ x, b = .string x := by
    unfold toScalar at hb; split at hb <;> cases hb <;> simp
  rcases ha' with ⟨x, rfl⟩ | ⟨k1, x, rfl⟩ | ⟨x, rfl⟩ <;> rcases hb' with ⟨y, rfl⟩ | ⟨k2, y, rfl⟩ | ⟨y, rfl⟩ <;> cases op <;> simp only [arithOp, Bool.false_eq_true] at har <;>
    simp only [binOp] at h <;> (try (split at h)) <;> simp [Op.intArith, Op.intBits, Op.stringOp, stuck, pureRun, Sem.pure] at h <;> first
      | (obtain ⟨rfl, rfl⟩ := h; exact wrap_inK _ _)
      | (split at h <;> cases h; done)
      | skip
theorem binop_run {P : Program} {X : Cr} {w : World} {op : BinOp} {t : TypeId} {a b : V} {x y : Value} {xo yo : Operand} {ps : List Ev} {ob : Prop} {r : Out}
    (h : opBin P op t a b ps ob = some r) (hx : X.vr w a x) (hy : X.vr w b y) (hob : r.ob) :
    r.upd = [] ∧ r.new = [] ∧ ob ∧ ∃ z, (do eqGuard op t xo yo x y; binOp op t x y : Sem Value).run P w = .ok z w ∧ X.vr w r.v z := by
  unfold opBin at h
  split at h
  · split at h
    · subst_vars
      split at h
      · rename_i ps' ob' hm
        cases h
        obtain ⟨h1, h2⟩ := must_ob hm hob
        rw [vr_int hx, vr_int hy]
        refine ⟨rfl, rfl, h1, _, ?_, .imm _ _ (.int _ _ _ (wrap_inK _ _))⟩
        simp only [bne_iff_ne, ne_eq] at h2
        simp [Op.intDiv, binOp, h2, eqGuard_quo]
      · cases h
    · cases h
  · split at h
    · subst_vars
      split at h
      · rename_i ps' ob' hm
        cases h
        obtain ⟨h1, h2⟩ := must_ob hm hob
        have hk := vr_inK hx
        rw [vr_int hx, vr_int hy]
        refine ⟨rfl, rfl, h1, _, ?_, .imm _ _ (.int _ _ _ (tmod_inK hk))⟩
        simp only [bne_iff_ne, ne_eq] at h2
        simp [Op.intDiv, binOp, h2, eqGuard_rem]
      · cases h
    · cases h
  · split at h
    · rename_i ps' ob' hm
      cases h
      obtain ⟨h1, h2⟩ := must_ob hm hob
      rw [vr_int hx, vr_int hy]
      refine ⟨rfl, rfl, h1, _, ?_, .imm _ _ (.int _ _ _ (wrap_inK _ _))⟩
      have h2 := Int.not_lt.2 (of_decide_eq_true h2)
      simp [Op.shift, binOp, h2, eqGuard_shl]
    · cases h
  · split at h
    · rename_i ps' ob' hm
      cases h
      obtain ⟨h1, h2⟩ := must_ob hm hob
      have hk := vr_inK hx
      rw [vr_int hx, vr_int hy]
      refine ⟨rfl, rfl, h1, _, ?_, .imm _ _ (.int _ _ _ (fdiv_inK hk (by exact_mod_cast Nat.two_pow_pos _)))⟩
      have h2 := Int.not_lt.2 (of_decide_eq_true h2)
      simp [Op.shift, binOp, h2, eqGuard_shr]
    · cases h
  · split at h
    · rename_i ps' ob' hm
      cases h
      obtain ⟨h1, h2⟩ := must_ob hm hob
      rw [vr_str hx, vr_str hy]
      refine ⟨rfl, rfl, h1, _, ?_, .imm _ _ (.str _ _)⟩
      have h2 := Int.not_lt.2 (of_decide_eq_true h2)
      simp only [Int.natCast_add] at h2
      simp [Op.stringOp, binOp, h2, eqGuard_add]
    · cases h
  · split at h
    · rename_i s a' s' b' ha hb
      split at h
      · rename_i v hv
        split at h
        · rename_i v' hv'
          cases h
          have ex := toScalar_vr ha hx
          have ey := toScalar_vr hb hy
          subst ex ey
          refine ⟨rfl, rfl, hob, v, ?_, .imm _ _ (mark_ir _ (ofRes_ir hv' fun k n har hn => by subst hn; exact binOp_res ha hb har hv))⟩
          have hg : eqGuard op t xo yo x y = pure () := by
            unfold toScalar at ha
            split at ha <;> cases ha
            · exact eqGuard_at_bool ..
            · exact eqGuard_at_int ..
            · exact eqGuard_at_string ..
          rw [hg]
          simp [pureRun_run hv]
        · cases h
      · cases h
    · rename_i hn
      split at h
      · rename_i s b' he _ _ _ _ _
        split at h
        · rename_i hg
          cases h
          obtain ⟨h1, _, h3⟩ := eqT_shape (xo := xo) (yo := yo) he (fun p q hp hq => hn _ _ _ _ hp hq) hx hy hg
          refine ⟨rfl, rfl, hob, .bool b', ?_, .imm _ _ (.bool _ _)⟩
          have := eqT_run (w := w) 10000 t a b s b' x y he hx hy
          simp only [Sem.run_bind, h3, Result.andThen_ok, h1, Op.equal, Op.maxDepth, this, Sem.run_pure]
        · cases h
      · rename_i s b' he _ _ _ _ _
        split at h
        · rename_i hg
          cases h
          obtain ⟨_, h1, h3⟩ := eqT_shape (xo := xo) (yo := yo) he (fun p q hp hq => hn _ _ _ _ hp hq) hx hy hg
          refine ⟨rfl, rfl, hob, .bool !b', ?_, .imm _ _ (.bool _ _)⟩
          have := eqT_run (w := w) 10000 t a b s b' x y he hx hy
          simp only [Sem.run_bind, h3, Result.andThen_ok, h1, Op.equal, Op.maxDepth, this, Sem.run_pure]
        · cases h
      · cases h
end Go.Im
