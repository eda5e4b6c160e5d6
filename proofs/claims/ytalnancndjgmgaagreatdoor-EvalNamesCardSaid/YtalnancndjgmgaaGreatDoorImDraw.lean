/- The ideal machine: a region whose order is drawn. -/
import Derived.Test.YtalnancndjgmgaaGreatDoorImReg
namespace Go.Im
set_option linter.unusedVariables false
set_option linter.unusedSimpArgs false
section seqs
variable {α : Type}
/-- What a place holds, of those that are done. -/
def cD (seq : Nat → α) (wr D : Nat → Bool) : Nat → α
  | 0 => seq 0
  | m + 1 => if D m && wr m then seq (m + 1) else cD seq wr D m
theorem cD_below {seq : Nat → α} {wr D : Nat → Bool} {n : Nat} (hs : ∀ k, k < n → wr k = false → seq (k + 1) = seq k) {i : Nat} (hi : i ≤ n) (h : ∀ k, k < i → wr k = true → D k = true) : cD seq wr D i = seq i := by
  induction i with
  | zero => rfl
  | succ i ih =>
    simp only [cD]
    have ih' := ih (by omega) (fun k hk => h k (by omega))
    cases hw : wr i with
    | true => rw [h i (by omega) hw]; rfl
    | false => simp [ih', hs i (by omega) hw]
theorem cD_at {seq : Nat → α} {wr D : Nat → Bool} {n : Nat} (hs : ∀ k, k < n → wr k = false → seq (k + 1) = seq k) {i : Nat} (hi : i ≤ n) (h : ∀ k, k < i → wr k = true → D k = true) (h' : ∀ k, i ≤ k → k < n → wr k = true → D k = false) : cD seq wr D n = seq i := by
  have : ∀ m, i ≤ m → m ≤ n → cD seq wr D m = seq i := by
    intro m
    induction m with
    | zero => intro h1 _; have : i = 0 := by omega
              subst this; rfl
    | succ m ih =>
      intro h1 h2
      by_cases he : i = m + 1
      · subst he; exact cD_below hs hi h
      · simp only [cD]
        have ih' := ih (by omega) (by omega)
        cases hw : wr m with
        | true => rw [h' m (by omega) (by omega) hw]; simpa using ih'
        | false => simpa using ih'
  exact this n hi (Nat.le_refl n)
theorem cD_add {seq : Nat → α} {wr D D' : Nat → Bool} {n : Nat} {i : Nat} (hi : i < n) (hD : ∀ k, D' k = (D k || k == i)) (h' : wr i = true → ∀ k, i < k → k < n → wr k = true → D k = false) :
    cD seq wr D' n = if wr i then seq (i + 1) else cD seq wr D n := by
  have low : ∀ m, m ≤ i → cD seq wr D' m = cD seq wr D m := by
    intro m
    induction m with
    | zero => intro _; rfl
    | succ m ih =>
      intro h
      simp only [cD]
      have : D' m = D m := by
        rw [hD]
        have : (m == i) = false := by simp; omega
        simp [this]
      rw [this, ih (by omega)]
  have : ∀ m, i < m → m ≤ n → cD seq wr D' m = if wr i then seq (i + 1) else cD seq wr D m := by
    intro m
    induction m with
    | zero => intro h; omega
    | succ m ih =>
      intro h1 h2
      simp only [cD]
      by_cases he : m = i
      · subst he
        rw [hD, low m (Nat.le_refl m)]
        cases hw : wr m <;> simp
      · have hDm : D' m = D m := by
          rw [hD]
          have : (m == i) = false := by simpa using he
          simp [this]
        rw [hDm, ih (by omega) (by omega)]
        cases hw : wr i with
        | true =>
          cases hwm : wr m with
          | true => rw [h' hw m (by omega) (by omega) hwm]; rfl
          | false => simp
        | false => simp
  exact this n hi (Nat.le_refl n)
end seqs
/-- What was done at the operation j. -/
def Fact (E : Env) (ops : Array Oper) (base : Nat) (S : Nat → St) (j : Nat) (o : Oper) (lg : Option Lg) : Prop :=
  ∃ c ps ob, wantedV ops (S j).T o (S j).ps (S j).ob = some (c, ps, ob) ∧
    ((c = true ∧ ∃ r, iopS E ops j (S j).T (lookH (S j).H) (base + j) o ps ob = some r ∧ inH (S j).H r.upd = true ∧ r.new.length ≤ 1 ∧ S (j + 1) = ⟨putT (S j).T o.dst r.v, putD (S j).H r (base + j), r.ps, r.ob⟩ ∧
        lg = some ⟨wrOf r (base + j) ++ r.fp, wrOf r (base + j), softOf E ops j (S j).T (lookH (S j).H) o r.v, (S (j + 1)).H⟩) ∨
     (c = false ∧ S (j + 1) = ⟨putT (S j).T o.dst (.tup []), (S j).H, ps, ob⟩ ∧ lg = some ⟨[], [], none, (S (j + 1)).H⟩))
theorem facts {E : Env} {ops : Array Oper} {base : Nat} : ∀ (rest : List Oper) (k : Nat) (st st' : St) (log : Log), runDrawn E ops base k rest st = some (st', log) →
    ∃ S : Nat → St, S k = st ∧ S (k + rest.length) = st' ∧ ∀ i o, rest[i]? = some o → Fact E ops base S (k + i) o log[i]?
  | [], k, st, st', log, h => by
    simp only [runDrawn] at h
    cases h
    exact ⟨fun _ => st, rfl, rfl, fun i o h => by simp at h⟩
  | o :: rest, k, st, st', log, h => by
    have glue : ∀ (st1 : St) (log' : Log) (lg : Lg), (∃ S : Nat → St, S (k + 1) = st1 ∧ S (k + 1 + rest.length) = st' ∧ ∀ i o, rest[i]? = some o → Fact E ops base S (k + 1 + i) o log'[i]?) →
        (∀ S : Nat → St, S k = st → S (k + 1) = st1 → Fact E ops base S k o (some lg)) →
        ∃ S : Nat → St, S k = st ∧ S (k + (o :: rest).length) = st' ∧ ∀ i o', (o :: rest)[i]? = some o' → Fact E ops base S (k + i) o' (lg :: log')[i]? := by
      rintro st1 log' lg ⟨S, h1, h2, h3⟩ hf
      refine ⟨fun i => if i = k then st else S i, by simp, ?_, fun i o' ho => ?_⟩
      · simp only [List.length_cons]
        rw [if_neg (by omega), ← h2]
        congr 1
        omega
      · cases i with
        | zero =>
          simp at ho
          subst ho
          exact hf _ (by simp) (by simp [h1])
        | succ i =>
          have := h3 i o' (by simpa using ho)
          simp only [List.getElem?_cons_succ]
          obtain ⟨c, ps, ob, q1, q2⟩ := this
          have e1 : k + 1 + i = k + (i + 1) := by omega
          rw [e1] at q1 q2
          have g1 : (fun i => if i = k then st else S i) (k + (i + 1)) = S (k + (i + 1)) := if_neg (by omega)
          have g2 : (fun i => if i = k then st else S i) (k + (i + 1) + 1) = S (k + (i + 1) + 1) := if_neg (by omega)
          refine ⟨c, ps, ob, ?_, ?_⟩
          · rw [g1]; exact q1
          · rw [g1, g2]; exact q2
    simp only [runDrawn] at h
    split at h
    · rename_i ps ob hw
      split at h
      · rename_i r hr
        split at h
        · rename_i hc
          split at h
          · rename_i st1 log' hrest
            cases h
            exact glue _ log' _ (facts rest (k + 1) _ _ log' hrest) fun S h1 h2 => ⟨true, ps, ob, by rw [h1]; exact hw, .inl ⟨rfl, r, by rw [h1]; exact hr, by rw [h1]; exact hc.1, hc.2, by rw [h2, h1], by rw [h2, h1]⟩⟩
          · cases h
        · cases h
      · cases h
    · rename_i ps ob hw
      split at h
      · rename_i st1 log' hrest
        cases h
        exact glue _ log' _ (facts rest (k + 1) _ _ log' hrest) fun S h1 h2 => ⟨false, ps, ob, by rw [h1]; exact hw, .inr ⟨rfl, by rw [h2, h1], by rw [h2]⟩⟩
      · cases h
    · cases h
theorem updL_hit : ∀ (upd : List (Nat × Option Blk)) (l l' : Look) (id : Nat), id ∈ upd.map (·.1) → updL l upd id = updL l' upd id
  | [], _, _, _, h => by simp at h
  | (k, b) :: upd, l, l', id, h => by
    simp only [updL]
    by_cases hm : id ∈ upd.map (·.1)
    · exact updL_hit upd _ _ id hm
    · have hk : id = k := by simpa [hm] using h
      subst hk
      have miss : ∀ (upd : List (Nat × Option Blk)) (l : Look), id ∉ upd.map (·.1) → updL l upd id = l id := by
        intro upd
        induction upd with
        | nil => intro l _; rfl
        | cons u us ih =>
          intro l hn
          obtain ⟨a, b⟩ := u
          simp only [List.map_cons, List.mem_cons, not_or] at hn
          simp only [updL]
          rw [ih _ hn.2, if_neg hn.1]
      rw [miss upd _ hm, miss upd _ hm]
      simp
theorem updL_miss : ∀ (upd : List (Nat × Option Blk)) (l : Look) (id : Nat), id ∉ upd.map (·.1) → updL l upd id = l id
  | [], _, _, _ => rfl
  | (k, b) :: upd, l, id, h => by
    simp only [List.map_cons, List.mem_cons, not_or] at h
    simp only [updL]
    rw [updL_miss upd _ id h.2, if_neg h.1]
/-- The look behind an operation. -/
def behind (l : Look) (r : Out) (nid : Nat) : Look := newL (updL l r.upd) nid r.new
theorem behind_hit {r : Out} {nid : Nat} (hn : r.new.length ≤ 1) (l l' : Look) {id : Nat} (h : id ∈ wrOf r nid) : behind l r nid id = behind l' r nid id := by
  unfold behind wrOf at *
  cases hr : r.new with
  | nil =>
    rw [hr] at h
    rw [newL_nil, newL_nil]
    exact updL_hit r.upd l l' id h
  | cons b bs =>
    rw [hr] at h hn
    have hbs : bs = [] := by simpa using hn
    subst hbs
    rw [newL_one, newL_one]
    dsimp only
    by_cases hi : id = nid
    · rw [if_pos hi, if_pos hi]
    · rw [if_neg hi, if_neg hi]
      exact updL_hit r.upd l l' id (by simpa [hi] using h)
theorem behind_miss {r : Out} {nid : Nat} (hn : r.new.length ≤ 1) (l : Look) {id : Nat} (h : id ∉ wrOf r nid) : behind l r nid id = l id := by
  unfold behind wrOf at *
  cases hr : r.new with
  | nil =>
    rw [hr] at h
    rw [newL_nil]
    exact updL_miss r.upd l id h
  | cons b bs =>
    rw [hr] at h hn
    have hbs : bs = [] := by simpa using hn
    subst hbs
    rw [newL_one]
    dsimp only
    simp only [List.mem_cons, not_or] at h
    rw [if_neg h.1]
    exact updL_miss r.upd l id h.2
theorem putD_look {H : Heap} {r : Out} {nid : Nat} (hin : inH H r.upd = true) (hn : r.new.length ≤ 1) (hnid : nid < H.length) : lookH (putD H r nid) = behind (lookH H) r nid ∧ (putD H r nid).length = H.length := by
  obtain ⟨h1, h2⟩ := lookH_putH r.upd H hin
  unfold putD behind
  cases hr : r.new with
  | nil => rw [newL_nil]; exact ⟨h1, h2⟩
  | cons b bs =>
    rw [hr] at hn
    have hbs : bs = [] := by simpa using hn
    subst hbs
    rw [newL_one]
    dsimp only
    rw [lookH_set _ _ _ (by rw [h2]; exact hnid), h1]
    exact ⟨rfl, by simp [h2]⟩
theorem disj_spec : ∀ {a b : List Nat}, disj a b = true → ∀ x ∈ a, x ∉ b
  | [], _, _, x, h => by simp at h
  | y :: a, b, h, x, hx => by
    simp only [disj, Bool.and_eq_true, Bool.not_eq_true'] at h
    rcases List.mem_cons.1 hx with rfl | hx
    · simpa using h.1
    · exact disj_spec h.2 x hx
theorem allP_app : ∀ {a b : List Prop}, allP (a ++ b) → allP a ∧ allP b
  | [], b, h => ⟨trivial, h⟩
  | p :: a, b, h => ⟨⟨h.1, (allP_app h.2).1⟩, (allP_app h.2).2⟩
theorem clash1_spec {P : Program} {mask : Nat} {l : Lg} : ∀ (log : Log) (i0 : Nat) (ps : List Prop), clash1 P mask l i0 log = some ps → allP ps → ∀ (i : Nat) (li : Lg), log[i]? = some li → mask.testBit (i0 + i) = false → (∀ x ∈ li.w, x ∈ li.f) →
    ((∀ x ∈ l.w, x ∉ li.f) ∧ (∀ x ∈ li.w, x ∉ l.f)) ∨ (li.w = [] ∧ ∃ s, li.sf = some s ∧ softP P s l.H)
  | [], _, _, _, _, i, li, h, _, _ => by simp at h
  | l0 :: log, i0, ps, h, hp, i, li, hi, hm, hsub => by
    simp only [clash1] at h
    split at h
    · rename_i ps0 hr
      have hps : allP ps0 := by
        split at h
        · cases h; exact hp
        · split at h
          · cases h; exact hp
          · split at h
            · cases h; exact hp.2
            · cases h
      cases i with
      | succ i =>
        refine clash1_spec log (i0 + 1) ps0 hr hps i li (by simpa using hi) ?_ hsub
        rw [← hm]; congr 1; omega
      | zero =>
        simp at hi
        subst hi
        split at h
        · rename_i hf
          exact .inl ⟨fun x _ hx => by rw [hf] at hx; simp at hx, fun x hx => by have := hsub x hx; rw [hf] at this; simp at this⟩
        · split at h
          · rename_i ht
            simp only [Nat.add_zero] at hm
            simp only [hm, Bool.false_or, Bool.and_eq_true] at ht
            exact .inl ⟨disj_spec ht.1, disj_spec ht.2⟩
          · split at h
            · rename_i s hs hw
              cases h
              exact .inr ⟨hw, s, hs, hp.1⟩
            · cases h
    · cases h
theorem clash_spec {P : Program} {b : Array Nat} {all : Log} : ∀ (log : Log) (j0 : Nat) (ps : List Prop), clash P b all j0 log = some ps → allP ps → ∀ (j : Nat) (l : Lg), log[j]? = some l → (∀ x ∈ l.w, x ∈ l.f) →
    ∀ (i : Nat) (li : Lg), i < j0 + j → all[i]? = some li → (b.getD (j0 + j) 0).testBit i = false → (∀ x ∈ li.w, x ∈ li.f) →
    ((∀ x ∈ l.w, x ∉ li.f) ∧ (∀ x ∈ li.w, x ∉ l.f)) ∨ (li.w = [] ∧ ∃ s, li.sf = some s ∧ softP P s l.H)
  | [], _, _, _, _, j, l, h, _, _, _, _, _, _, _ => by simp at h
  | l0 :: log, j0, ps, h, hp, j, l, hj, hsub, i, li, hlt, hi, hm, hsub' => by
    simp only [clash] at h
    split at h
    · rename_i ps0 hr
      have hps : allP ps0 := by
        split at h
        · cases h; exact hp
        · split at h
          · cases h; exact (allP_app hp).2
          · cases h
      cases j with
      | succ j =>
        refine clash_spec log (j0 + 1) ps0 hr hps j l (by simpa using hj) hsub i li (by omega) hi ?_ hsub'
        rw [← hm]; congr 2; omega
      | zero =>
        simp at hj
        subst hj
        split at h
        · rename_i hf
          exact .inl ⟨fun x hx => by have := hsub x hx; rw [hf] at this; simp at this, fun x _ hx => by rw [hf] at hx; simp at hx⟩
        · split at h
          · rename_i qs hq
            cases h
            simp only [Nat.add_zero] at hm hlt
            exact clash1_spec (all.take j0) 0 qs hq (allP_app hp).1 i li (by rw [List.getElem?_take, if_pos hlt]; exact hi) (by simpa using hm) hsub'
          · cases h
    · cases h
/-- A load, where the cell is as it was. -/
theorem soft_local {E : Env} {ops : Array Oper} {j : Nat} {T T' : List V} {l l' : Look} {nid : Nat} {o : Oper} {ps : List Ev} {ob : Prop} {r : Out} {s : Soft} (hs : softOf E ops j T l o r.v = some s) (h : iopS E ops j T l nid o ps ob = some r) :
    r.fp = [s.id] ∧ ((∀ x ∈ o.op.operands, ev T' x = ev T x) → (∃ b, l' s.id = some b ∧ b.sym = false ∧ ∃ e, b.es[s.i]? = some e ∧ partOf E.P s.t e s.off = some s.v) → iopS E ops j T' l' nid o ps ob = some r) := by
  unfold softOf at hs
  split at hs
  · rename_i t a ho
    split at hs
    · rename_i id i off hev
      split at hs
      · rename_i b hb
        split at hs
        · rename_i hsym
          split at hs
          · rename_i hsrc
            split at hs
            · rename_i hfz
              have hset : ∀ r0 : Out, settle ops j r0 = some r0 := by
                intro r0
                unfold settle
                split
                · rw [hsrc]
                · rfl
              have hfr : ∀ (k : Look) (r0 : Out), frzO k o E.cx.frz r0 = some r0 := by
                intro k r0
                unfold frzO
                unfold inFrz at hfz
                split
                · rename_i d hd
                  rw [hd] at hfz
                  dsimp only at hfz
                  rw [hfz]
                · rfl
              have key : ∀ (T : List V) (k : Look), iopS E ops j T k nid o ps ob = iop E T k nid o ps ob := by
                intro T k
                unfold iopS iopF
                cases iop E T k nid o ps ob with
                | none => rfl
                | some r0 =>
                  dsimp only
                  rw [hfr]
                  exact hset r0
              rw [key] at h
              have hr : r.v = s.v ∧ r.upd = [] ∧ r.new = [] ∧ r.fp = [id] ∧ r.ps = ps ∧ r.ob = ob ∧ s.id = id ∧ s.i = i ∧ s.off = off ∧ s.t = t := by
                have hs' := hs
                cases hs'
                unfold iop at h
                simp only [ho, hev, opLoad, hb, hsym, elemAt] at h
                cases he : b.es[i]? with
                | none => rw [he] at h; simp at h
                | some e =>
                  rw [he] at h
                  simp only [Option.map_some] at h
                  split at h
                  · rename_i v hv
                    cases h
                    exact ⟨rfl, rfl, rfl, rfl, rfl, rfl, rfl, rfl, rfl, rfl⟩
                  · cases h
              obtain ⟨r1, r2, r3, r4, r5, r6, s1, s2, s3, s4⟩ := hr
              refine ⟨by rw [r4, s1], fun hT ⟨b', hb', hsym', e', he', hp'⟩ => ?_⟩
              rw [key]
              unfold iop
              have hev' : ev T' a = some (.mptr id i off) := by rw [hT a (by simp [ho, Op.operands]), hev]
              rw [s1] at hb'
              rw [s2] at he'
              rw [s3, s4] at hp'
              simp only [ho, hev', opLoad, hb', hsym', elemAt, he', Option.map_some, hp']
              cases r
              simp only at r1 r2 r3 r4 r5 r6
              subst r1 r2 r3 r4 r5 r6
              rfl
            · cases hs
          · cases hs
        · cases hs
      · cases hs
    · cases hs
  · cases hs
theorem edgesOk_spec : ∀ (l : List Oper) (j0 : Nat), edgesOk j0 l = true → ∀ (j : Nat) (o : Oper), l[j]? = some o → ∀ e ∈ o.after, Region.binds .any e = true → e.on < j0 + j
  | [], _, _, j, o, h, _, _, _ => by simp at h
  | o0 :: l, j0, h, j, o, hj, e, he, hb => by
    simp only [edgesOk, Bool.and_eq_true] at h
    cases j with
    | zero =>
      simp at hj
      subst hj
      have := List.all_eq_true.1 h.1 e (by simpa using he)
      simpa [hb] using this
    | succ j =>
      have := edgesOk_spec l (j0 + 1) h.2 j o (by simpa using hj) e he hb
      omega
theorem oneWriter_spec {t : Tmp} {g : Nat} : ∀ (l : List Oper) (j0 : Nat), oneWriter t g j0 l = true → ∀ (j : Nat) (o : Oper), l[j]? = some o → o.dst = some t → j0 + j = g
  | [], _, _, j, o, h, _ => by simp at h
  | o0 :: l, j0, h, j, o, hj, hd => by
    simp only [oneWriter, Bool.and_eq_true] at h
    cases j with
    | zero =>
      simp at hj
      subst hj
      have := h.1
      rw [hd] at this
      simpa using this
    | succ j =>
      have := oneWriter_spec l (j0 + 1) h.2 j o (by simpa using hj) hd
      omega
theorem guardsOk_spec {ops : Array Oper} {all : List Oper} : ∀ (l : List Oper), guardsOk ops all l = true → ∀ (j : Nat) (o : Oper), l[j]? = some o → ∀ g want, o.guard = some (g, want) →
    (∃ e ∈ o.after, e.on = g ∧ Region.binds .any e = true) ∧ ∃ t, (ops[g]?).bind (·.dst) = some t ∧ oneWriter t g 0 all = true
  | [], _, j, o, h, _, _, _ => by simp at h
  | o0 :: l, h, j, o, hj, g, want, hg => by
    simp only [guardsOk, Bool.and_eq_true] at h
    cases j with
    | zero =>
      simp at hj
      subst hj
      have h1 := h.1
      rw [hg] at h1
      simp only [Bool.and_eq_true] at h1
      obtain ⟨h2, h3⟩ := h1
      refine ⟨?_, ?_⟩
      · obtain ⟨e, he, hc⟩ := List.any_eq_true.1 h2
        simp only [Bool.and_eq_true, beq_iff_eq] at hc
        exact ⟨e, by simpa using he, hc.1, hc.2⟩
      · split at h3
        · rename_i t ht; exact ⟨t, ht, h3⟩
        · cases h3
    | succ j => exact guardsOk_spec l h.2 j o (by simpa using hj) g want hg
theorem fact_len {E : Env} {ops : Array Oper} {base : Nat} {S : Nat → St} {j : Nat} {o : Oper} {lg : Option Lg} (h : Fact E ops base S j o lg) (hn : base + j < (S j).H.length) :
    (S (j + 1)).T.length = (S j).T.length ∧ (S (j + 1)).H.length = (S j).H.length ∧ ((S (j + 1)).ob → (S j).ob) := by
  obtain ⟨c, ps, ob, hw, ⟨_, r, hr, hin, hnew, hS, _⟩ | ⟨_, hS, _⟩⟩ := h
  · rw [hS]
    exact ⟨putT_len _ _ _, (putD_look hin hnew hn).2, fun ho => wantedV_ob hw (iopS_ob hr ho)⟩
  · rw [hS]
    exact ⟨putT_len _ _ _, rfl, fun ho => wantedV_ob hw ho⟩
theorem fact_slot {E : Env} {ops : Array Oper} {base : Nat} {S : Nat → St} {j : Nat} {o : Oper} {lg : Option Lg} (h : Fact E ops base S j o lg) {t : Nat} (ht : o.dst ≠ some t) : (S (j + 1)).T[t]? = (S j).T[t]? := by
  have : ∀ v, (putT (S j).T o.dst v)[t]? = (S j).T[t]? := by
    intro v
    cases hd : o.dst with
    | none => rfl
    | some d => simp only [putT]; rw [List.getElem?_set_ne (fun h => ht (by rw [hd, h]))]
  obtain ⟨c, ps, ob, hw, ⟨_, r, hr, hin, hnew, hS, _⟩ | ⟨_, hS, _⟩⟩ := h <;> rw [hS] <;> exact this _
def wrAt (log : Log) (id : Nat) (j : Nat) : Bool := match log[j]? with
  | some l => l.w.contains id
  | none => false
theorem fact_id {E : Env} {ops : Array Oper} {base : Nat} {S : Nat → St} {j : Nat} {o : Oper} {log : Log} (h : Fact E ops base S j o log[j]?) (hn : base + j < (S j).H.length) {id : Nat} (hid : wrAt log id j = false) : lookH (S (j + 1)).H id = lookH (S j).H id := by
  obtain ⟨c, ps, ob, hw, ⟨_, r, hr, hin, hnew, hS, hlg⟩ | ⟨_, hS, _⟩⟩ := h
  · rw [hS]
    dsimp only
    rw [(putD_look hin hnew hn).1]
    simp only [wrAt, hlg] at hid
    exact behind_miss hnew _ (by simpa using hid)
  · rw [hS]
def slotAt (ops : Array Oper) (t : Nat) (j : Nat) : Bool := (ops[j]?).bind (·.dst) == some t
theorem writers_spec (n : Nat) : ∀ (l : List (Oper × Nat)) (w : Array (List (Tmp × Nat))), w.size = n →
    (∀ k x, x ∈ w.getD k [] → x ∈ (l.foldl (fun w (x : Oper × Nat) => match x.1.dst with | some d => w.modify (d % n) ((d, x.2) :: ·) | none => w) w).getD k []) ∧
    ∀ o i d, (o, i) ∈ l → o.dst = some d → 0 < n → (d, i) ∈ (l.foldl (fun w (x : Oper × Nat) => match x.1.dst with | some d => w.modify (d % n) ((d, x.2) :: ·) | none => w) w).getD (d % n) []
  | [], w, _ => ⟨fun k x h => h, fun o i d h => by simp at h⟩
  | (o0, i0) :: l, w, hw => by
    simp only [List.foldl_cons]
    have hmod : ∀ (w : Array (List (Tmp × Nat))) (p : Nat) (y : Tmp × Nat), (∀ k x, x ∈ w.getD k [] → x ∈ (w.modify p (y :: ·)).getD k []) ∧ (p < w.size → y ∈ (w.modify p (y :: ·)).getD p []) := by
      intro w p y
      refine ⟨fun k x hx => ?_, fun hp => ?_⟩
      · simp only [Array.getD_eq_getD_getElem?, Array.getElem?_modify] at hx ⊢
        by_cases hpk : p = k
        · rw [if_pos hpk]
          cases hk : w[k]? with
          | none => rw [hk] at hx; simp at hx
          | some ls => rw [hk] at hx; simp at hx ⊢; exact .inr hx
        · rw [if_neg hpk]; exact hx
      · simp only [Array.getD_eq_getD_getElem?, Array.getElem?_modify, if_true]
        rw [Array.getElem?_eq_getElem hp]
        simp
    have next : ∀ w', (match o0.dst with | some d => w.modify (d % n) ((d, i0) :: ·) | none => w) = w' → w'.size = n ∧ (∀ k x, x ∈ w.getD k [] → x ∈ w'.getD k []) ∧ ∀ d, o0.dst = some d → 0 < n → (d, i0) ∈ w'.getD (d % n) [] := by
      intro w' h
      split at h
      · rename_i d hd
        subst h
        refine ⟨by simpa using hw, (hmod w (d % n) (d, i0)).1, fun d' hd' hn => ?_⟩
        rw [hd] at hd'
        cases hd'
        exact (hmod w (d % n) (d, i0)).2 (by rw [hw]; exact Nat.mod_lt _ hn)
      · rename_i hd
        subst h
        exact ⟨hw, fun k x hx => hx, fun d hd' => by rw [hd] at hd'; cases hd'⟩
    obtain ⟨g1, g2, g3⟩ := next _ rfl
    obtain ⟨h1, h2⟩ := writers_spec n l _ g1
    refine ⟨fun k x hx => h1 k x (g2 k x hx), fun o i d hm hd hn => ?_⟩
    rcases List.mem_cons.1 hm with heq | hm
    · cases heq; exact h1 _ _ (g3 d hd hn)
    · exact h2 o i d hm hd hn
def namesOf (o : Oper) : List Tmp := o.dst.toList ++ o.op.operands.toList.filterMap fun | .tmp t => some t | _ => none
theorem temporaries_spec {ops : Array Oper} {b : Array Nat} (h : Region.temporariesOk ops b = true) {i j : Nat} {oi oj : Oper} (hi : ops[i]? = some oi) (hj : ops[j]? = some oj) {t : Tmp} (ht : t ∈ namesOf oj) (hd : oi.dst = some t) (hne : i ≠ j) :
    (b.getD (max i j) 0).testBit (min i j) = true := by
  unfold Region.temporariesOk at h
  simp only at h
  have hjz : (oj, j) ∈ ops.toList.zipIdx := by
    rw [List.mem_iff_getElem?]
    exact ⟨j, by simp [List.getElem?_zipIdx, hj]⟩
  have hiz : (oi, i) ∈ ops.toList.zipIdx := by
    rw [List.mem_iff_getElem?]
    exact ⟨i, by simp [List.getElem?_zipIdx, hi]⟩
  have h1 := List.all_eq_true.1 h (oj, j) hjz
  have h2 := List.all_eq_true.1 h1 t ht
  have hn : 0 < ops.size := by
    have := (Array.getElem?_eq_some_iff.1 hi).1
    omega
  have hw := (writers_spec ops.size ops.toList.zipIdx (Array.replicate ops.size []) (by simp)).2 oi i t hiz hd hn
  have h3 := List.all_eq_true.1 h2 (t, i) hw
  simpa [hne] using h3
/-- The order of what is done, as 'before' has it. -/
theorem before_fold (ops : List Oper) : ∀ (l : List Oper) (acc : Array Nat), (∀ (D : Nat → Bool), (∀ j k, j < acc.size → D j = true → (acc.getD j 0).testBit k = true → D k = true) →
      (∀ j o, l[j]? = some o → D (acc.size + j) = true → ∀ e ∈ o.after, Region.binds .any e = true → D e.on = true) →
      ∀ j k, j < acc.size + l.length → D j = true → ((l.foldl (fun acc o => acc.push (o.after.foldl (fun s e => if Region.binds .any e then s ||| 2 ^ e.on ||| acc.getD e.on 0 else s) 0)) acc).getD j 0).testBit k = true → D k = true)
  | [], acc => fun D h1 _ j k hj hD hb => h1 j k (by simpa using hj) hD hb
  | o :: l, acc => by
    intro D h1 h2 j k hj hD hb
    simp only [List.foldl_cons] at hb
    refine before_fold ops l _ D (fun j k hj hD hb => ?_) (fun j o' ho hD => h2 (j + 1) o' (by simpa using ho) (by
      rw [Array.size_push] at hD
      rw [← hD]; congr 1; omega)) j k (by simp at hj ⊢; omega) hD hb
    rw [Array.size_push] at hj
    by_cases hja : j < acc.size
    · refine h1 j k hja hD ?_
      simpa [Array.getD_eq_getD_getElem?, Array.getElem?_push, show j ≠ acc.size by omega] using hb
    · have hje : j = acc.size := by omega
      subst hje
      have hed := h2 0 o (by simp) (by simpa using hD)
      have hb' : (o.after.foldl (fun s e => if Region.binds .any e then s ||| 2 ^ e.on ||| acc.getD e.on 0 else s) 0).testBit k = true := by
        simpa [Array.getD_eq_getD_getElem?] using hb
      rw [← Array.foldl_toList] at hb'
      have : ∀ (es : List Edge) (s : Nat), (∀ e ∈ es, Region.binds .any e = true → D e.on = true) → (s.testBit k = true → D k = true) →
          (es.foldl (fun s e => if Region.binds .any e then s ||| 2 ^ e.on ||| acc.getD e.on 0 else s) s).testBit k = true → D k = true := by
        intro es
        induction es with
        | nil => intro s _ hs h; exact hs h
        | cons e es ih =>
          intro s hes hs h
          simp only [List.foldl_cons] at h
          refine ih _ (fun e he => hes e (by simp [he])) (fun h' => ?_) h
          split at h'
          · rename_i hbd
            simp only [Nat.testBit_or, Bool.or_eq_true] at h'
            have hDe := hes e (by simp) hbd
            rcases h' with (h' | h') | h'
            · exact hs h'
            · have : e.on = k := by
                rw [Nat.testBit_two_pow] at h'
                simpa using h'
              exact this ▸ hDe
            · by_cases hlt : e.on < acc.size
              · exact h1 e.on k hlt hDe h'
              · rw [show acc.getD e.on 0 = 0 by simp [Array.getD_eq_getD_getElem?, Array.getElem?_eq_none (Nat.le_of_not_lt hlt)]] at h'
                simp at h'
          · exact hs h'
      exact this o.after.toList 0 (fun e he hb => hed e (by simpa using he) hb) (fun h => by simp at h) hb'
theorem before_closed {ops : Array Oper} {D : Nat → Bool} (h : ∀ j o, ops[j]? = some o → D j = true → ∀ e ∈ o.after, Region.binds .any e = true → D e.on = true) {j k : Nat} (hj : j < ops.size) (hD : D j = true)
    (hb : ((Region.before ops).getD j 0).testBit k = true) : D k = true := by
  have := before_fold ops.toList ops.toList #[] D (fun j k hj => by simp at hj) (fun j o ho hD => h j o (by simpa using ho) (by simpa using hD)) j k (by simpa using hj) hD
  refine this ?_
  unfold Region.before at hb
  rw [← Array.foldl_toList] at hb
  exact hb
end Go.Im
