/- Plain laws (PlS, PlS2, PlC). -/
import Derived.Test.YtfkfbjhegiffhaaGreatDoorTrA1
import Derived.Test.YtfkfbjhegiffhaaGreatDoorTrA1
import Derived.Test.YtfkfbjhegiffhaaGreatDoorPlA
import Derived.Test.YtfkfbjhegiffhaaGreatDoorTrA5
import Derived.Test.YtfkfbjhegiffhaaGreatDoorTrA1
/- Plain laws: statements as texts. -/
set_option linter.unusedVariables false
set_option linter.unusedSimpArgs false
namespace Go.Im
theorem size_bl (b : ByteArray) : b.size = (bl b).length := (Array.length_toList).symm
theorem eu_ws {a : ByteArray} {d : Int} {g : List UInt8} (h : g.length + a.size ≤ 2000000000) : Eu (fun n => S.strings_Builder_WriteStringv2 n a d g) ((a.size : Int), d, g ++ bl a) := by
  refine Eu.eq (fun n => rfl) (Eu.bd (a := (d, g)) (Eu.eq (fun n => rfl) (Eu.ret rfl)) (Eu.t (decide_eq_true ?_) (Eu.t (inK_nat ?_) (Eu.ret rfl))))
  · rw [List.length_map, List.length_map, ← size_bl]
    show g.length + a.size ≤ 4294967296
    omega
  · show a.size ≤ 4611686018427387904
    omega
/-- A line. -/
def lineT (d : Nat) (ps : List ByteArray) : List UInt8 := List.replicate d 9 ++ (ps.flatMap bl ++ [10])
theorem eu_line_l0 {ps : List ByteArray} {d : Int} (hp : ps.length ≤ 100) : ∀ (k i : Nat) (g : List UInt8), i + k = ps.length → g.length + ((ps.drop i).flatMap bl).length ≤ 1000000000 →
    Eu (fun n => S.tree_writer_line_l0 n ps ((ps.length : Nat) : Int) (i : Int) d g) (d, g ++ (ps.drop i).flatMap bl) := by
  intro k
  induction k with
  | zero =>
    intro i g hi _
    refine Eu.succ (fun n => S.tree_writer_line_l0.eq_2 ..) (Eu.f (decide_eq_false (by omega)) (Eu.ret ?_))
    rw [List.drop_eq_nil_of_le (by omega)]; simp
  | succ k ih =>
    intro i g hi hg
    have hlt : i < ps.length := by omega
    rw [List.drop_eq_getElem_cons hlt] at hg ⊢
    simp only [List.flatMap_cons, List.length_append] at hg
    have hs := size_bl ps[i]
    refine Eu.succ (fun n => S.tree_writer_line_l0.eq_2 ..) (Eu.t (decide_eq_true (by omega)) (Eu.t (inRm hlt) (Eu.bs (nat_get hlt) (Eu.bd (eu_ws (by omega)) ?_))))
    rw [wrap_s (show i < 4611686018427387904 by omega)]
    have := ih (i + 1) (g ++ bl ps[i]) (by omega) (by rw [List.length_append]; omega)
    refine this.cast ?_
    simp only [List.flatMap_cons, List.append_assoc]
theorem repeat_tab (d : Nat) (hd : d ≤ 1000) : E.Repeat ⟨#[9]⟩ (d : Int) = some (bs (List.replicate d 9)) := by
  have h1 : ∀ c, Lib.repeatL [9] c = List.replicate c 9 := by
    intro c
    induction c with
    | zero => rfl
    | succ c ih => simp only [Lib.repeatL, ih, List.replicate_succ, List.cons_append, List.nil_append]
  unfold E.Repeat
  have h2 : (⟨#[9]⟩ : ByteArray).size = 1 := rfl
  have h3 : (⟨#[9]⟩ : ByteArray).data.toList = [9] := rfl
  rw [decide_eq_true (show (0 : Int) ≤ (d : Int) by omega), decide_eq_true (by rw [h2]; omega), h3, Int.toNat_natCast, h1]
  rfl
theorem eu_line {ps : List ByteArray} {d : Nat} {g : List UInt8} (hd : d ≤ 1000) (hp : ps.length ≤ 100) (h : g.length + (lineT d ps).length ≤ 1000000000) : Eu (fun n => S.tree_writer_linev2 n ps (d : Int) g) ((d : Int), g ++ lineT d ps) := by
  have hl : (lineT d ps).length = d + ((ps.flatMap bl).length + 1) := by simp [lineT]
  rw [hl] at h
  refine Eu.eq (fun n => rfl) (Eu.bs (repeat_tab d hd) (Eu.bd (eu_ws (by rw [size_bs, List.length_replicate]; omega)) (Eu.t (inK_map (Nat.le_trans hp (by decide))) (Eu.bd (a := ((d : Int), (g ++ List.replicate d 9) ++ ps.flatMap bl)) ?_ (Eu.bd (eu_ws ?_) (Eu.ret ?_))))))
  · have := eu_line_l0 (d := (d : Int)) hp ps.length 0 (g ++ List.replicate d 9) (by omega) (by simp only [List.drop_zero, List.length_append, List.length_replicate]; omega)
    simp only [List.drop_zero] at this
    rw [List.length_map]
    simp only [bl, bl_bs]
    exact this
  · simp only [List.length_append, List.length_replicate, size_lit, List.size_toArray, List.length_cons, List.length_nil]; omega
  · simp [lineT]
def putsT (l : List TreeExpr) : List UInt8 := Lib.join (l.map putE) [44, 32]
theorem eu_puts_l0 {l : List TreeExpr} (hl : l.length ≤ 100) (hw : ∀ e ∈ l, WE 4 e) : ∀ (k i : Nat) (g : List ByteArray), i + k = l.length → g.length ≤ i →
    Eu (fun n => S.tree_puts_l0 n l ((l.length : Nat) : Int) (i : Int) g) (g ++ (l.drop i).map fun e => bs (putE e)) := by
  intro k
  induction k with
  | zero =>
    intro i g hi _
    refine Eu.succ (fun n => S.tree_puts_l0.eq_2 ..) (Eu.f (decide_eq_false (by omega)) (Eu.ret ?_))
    rw [List.drop_eq_nil_of_le (by omega)]; simp
  | succ k ih =>
    intro i g hi hg
    have hlt : i < l.length := by omega
    rw [List.drop_eq_getElem_cons hlt]
    refine Eu.succ (fun n => S.tree_puts_l0.eq_2 ..) (Eu.t (decide_eq_true (by omega)) (Eu.t (inRm hlt) (Eu.bs (nat_get hlt) (Eu.bd (eu_putE (hw _ (List.getElem_mem hlt)) (by decide)) (Eu.t (decide_eq_true ?_) ?_)))))
    · simp only [List.length_map, List.length_cons, List.length_nil]
      show g.length + (0 + 1) ≤ 4294967296
      omega
    · rw [wrap_s (show i < 4611686018427387904 by omega)]
      refine (ih (i + 1) (g ++ [bs (putE l[i])]) (by omega) (by simp; omega)).cast ?_
      rw [List.map_cons, List.append_assoc]; rfl
theorem putE_le {e : TreeExpr} (h : WE 4 e) : (putE e).length ≤ 620 := by
  have := putE_len h
  omega
theorem putsT_len {l : List TreeExpr} (hl : l.length ≤ 2) (hw : ∀ e ∈ l, WE 4 e) : (putsT l).length ≤ 1300 := by
  match l, hl with
  | [], _ => simp [putsT, Lib.join]
  | [a], _ => have := putE_le (hw a (by simp)); simp only [putsT, List.map_cons, List.map_nil, Lib.join_one]; omega
  | [a, b], _ =>
    have := putE_le (hw a (by simp)); have := putE_le (hw b (by simp))
    simp [putsT, Lib.join, List.intercalate]; omega
theorem eu_puts {l : List TreeExpr} (hl : l.length ≤ 2) (hw : ∀ e ∈ l, WE 4 e) : Eu (fun n => S.tree_puts n l) (bs (putsT l)) := by
  have hlen := putsT_len hl hw
  refine Eu.eq (fun n => rfl) (Eu.t (inK_map (Nat.le_trans hl (by decide))) (Eu.bd (a := l.map fun e => bs (putE e)) ?_ (Eu.bs (a := bs (putsT l)) ?_ (Eu.ret rfl))))
  · have := eu_puts_l0 (by omega) hw l.length 0 [] (by omega) (by simp)
    simp only [List.drop_zero, List.nil_append] at this
    rw [List.length_map]
    exact this
  · have hj : E.joinL (l.map fun e => bs (putE e)) ⟨#[44, 32]⟩ = putsT l := by
      unfold E.joinL putsT
      rw [List.map_map]
      rw [show (fun x => x.data.toList) ∘ (fun e => bs (putE e)) = putE from funext fun e => bl_bs _]
    unfold E.Join
    rw [hj, decide_eq_true (by rw [List.length_map]; omega), decide_eq_true (by omega)]
    rfl
def tagB (t : Int) : ByteArray := if t > 0 then ({ data := #[64] } ++ E.FormatInt t ++ { data := #[32] }) else e0
def plainT (k : Int) (nm fn : ByteArray) (es : List TreeExpr) : List UInt8 :=
  if k = 0 then bl nm ++ ([32, 61, 32] ++ (putsT es ++ [59])) else
  if k = 1 then bl nm ++ (91 :: (((es.map putE).getD 0 []) ++ ([93, 32, 61, 32] ++ (((es.map putE).getD 1 []) ++ [59])))) else
  if k = 2 then bl nm ++ [32, 61, 32, 114, 101, 97, 100, 40, 41, 59] else
  if k = 3 then bl nm ++ ([32, 61, 32] ++ (bl fn ++ (40 :: (putsT es ++ [41, 59])))) else
  if k = 6 then [98, 114, 101, 97, 107, 59] else
  if k = 7 then [99, 111, 110, 116, 105, 110, 117, 101, 59] else
  if k = 8 then [114, 101, 116, 117, 114, 110, 32] ++ (putsT es ++ [59]) else
  if k = 9 then [97, 115, 115, 101, 114, 116, 40] ++ (putsT es ++ [41, 59]) else []
def stT (d : Nat) (k t : Int) (nm fn : ByteArray) (es : List TreeExpr) (tb tc : List UInt8) (ce : Bool) : List UInt8 :=
  if k = 4 then lineT d [tagB t, ⟨#[105, 102, 32, 40]⟩, bs (putsT es), ⟨#[41, 32, 123]⟩] ++ (tb ++ ((bif ce then [] else lineT d [⟨#[125, 32, 101, 108, 115, 101, 32, 123]⟩] ++ tc) ++ lineT d [⟨#[125]⟩])) else
  if k = 5 then lineT d [tagB t, ⟨#[119, 104, 105, 108, 101, 32, 40]⟩, bs (putsT es), ⟨#[41, 32, 123]⟩] ++ (tb ++ lineT d [⟨#[125]⟩]) else
  lineT d [tagB t, bs (plainT k nm fn es)]
mutual
/-- Statements as they are read. -/
def txtS (d : Nat) : TreeStmt → List UInt8
  | ⟨k, t, nm, fn, es, b, c⟩ => stT d k t nm fn es (txtL (d + 1) b) (txtL (d + 1) c) c.isEmpty
def txtL (d : Nat) : List TreeStmt → List UInt8
  | [] => []
  | s :: l => txtS d s ++ txtL d l
end
theorem txtL_app (d : Nat) : ∀ a b, txtL d (a ++ b) = txtL d a ++ txtL d b
  | [], b => by simp [txtL]
  | s :: a, b => by simp only [List.cons_append, txtL, txtL_app d a b, List.append_assoc]
theorem lineT_len (d : Nat) (ps : List ByteArray) : (lineT d ps).length = d + ((ps.flatMap bl).length + 1) := by simp [lineT]
theorem decF_len : ∀ k u, (decF k u).length ≤ k + 1
  | 0, u => by simp [decF]
  | k + 1, u => by
    simp only [decF]
    cases decide (u < 10) with
    | true => simp
    | false => have := decF_len k (u / 10); simp; omega
theorem itoa_len (n : Int) : (bl (E.FormatInt n)).length ≤ 22 := by
  have : bl (E.FormatInt n) = itoaF n := bl_bs (itoaF n)
  rw [this]
  unfold itoaF
  cases n with
  | ofNat u => exact Nat.le_trans (decF_len 20 u) (by decide)
  | negSucc u => exact Nat.succ_le_succ (decF_len 20 (u + 1))
theorem tagB_len (t : Int) : (bl (tagB t)).length ≤ 24 := by
  have := itoa_len t
  unfold tagB
  split
  · simp only [bl, bl_app, List.length_append]
    have h1 : (⟨#[64]⟩ : ByteArray).data.toList.length = 1 := rfl
    have h2 : (⟨#[32]⟩ : ByteArray).data.toList.length = 1 := rfl
    rw [h1, h2]
    have : (E.FormatInt t).data.toList.length ≤ 22 := this
    omega
  · simp
theorem nm_sz {n : ByteArray} (h : n ∈ NL) : n.size ≤ 4 := by rw [size_bl]; exact nm_len n h
theorem plainT_len {d : Nat} {s : TreeStmt} (h : WS d s) : (plainT s.Kind s.Name s.Func s.E).length ≤ 1320 := by
  cases h with
  | assign _ t nm e ht hn he => have := nm_len nm hn; have := nm_sz hn; have := putsT_len (l := [e]) (by simp) (by simpa using he); simp [plainT]; omega
  | store _ t nm i e ht hn hi he => have := nm_len nm hn; have := nm_sz hn; have := putE_le hi; have := putE_le he; simp [plainT]; omega
  | read _ t nm ht hn => have := nm_len nm hn; have := nm_sz hn; simp [plainT]; omega
  | call _ t nm fn l ht hn hf hl he => have := nm_len nm hn; have := nm_sz hn; have := nm_len fn hf; have := nm_sz hf; have := putsT_len hl he; simp [plainT]; omega
  | ifs => simp [plainT]
  | whil => simp [plainT]
  | brk => simp [plainT]
  | cont => simp [plainT]
  | ret _ t e ht he => have := putsT_len (l := [e]) (by simp) (by simpa using he); simp [plainT]; omega
  | asrt _ t e ht he => have := putsT_len (l := [e]) (by simp) (by simpa using he); simp [plainT]; omega
theorem txtL_bd {d B : Nat} : ∀ l : List TreeStmt, (∀ s ∈ l, (txtS d s).length ≤ B) → (txtL d l).length ≤ l.length * B
  | [], _ => by simp [txtL]
  | s :: l, h => by
    have h1 := txtL_bd l fun x hx => h x (by simp [hx])
    have h2 := h s (by simp)
    simp only [txtL, List.length_append, List.length_cons]
    rw [Nat.add_mul]; omega
end Go.Im

/- Plain laws: statements as texts: what the writer writes. -/
set_option maxRecDepth 10000
namespace Go.Im
theorem kids1 {l : List TreeExpr} (hl : l.length ≤ 100) : inK .i64 (((l.map TreeExpr.v).length : Nat) : Int) = true := inK_map (Nat.le_trans hl (by decide))
theorem eu_plain {dd : Nat} {s : TreeStmt} (hw : WS dd s) (h4 : s.Kind ≠ 4) (h5 : s.Kind ≠ 5) : Eu (fun n => S.tree_Stmt_plain n s) (bs (plainT s.Kind s.Name s.Func s.E)) := by
  have szb : ∀ {b : ByteArray}, b ∈ NL → b.size ≤ 4 := fun h => by rw [size_bl]; exact nm_len _ h
  refine Eu.eq (fun n => rfl) ?_
  cases hw with
  | assign _ t nm e ht hn he =>
    have h1 := szb hn
    have h2 := putsT_len (l := [e]) (by simp) (by simpa using he)
    refine Eu.t rfl (Eu.t (le63 ?_) (Eu.bd (eu_puts (l := [e]) (by simp) (by simpa using he)) (Eu.t (le63 ?_) (Eu.t (le63 ?_) (Eu.ret ?_)))))
    · simp only [size_lit, List.size_toArray, List.length_cons, List.length_nil]; omega
    · simp only [ByteArray.size_append, size_lit, size_bs, List.size_toArray, List.length_cons, List.length_nil]; omega
    · simp only [ByteArray.size_append, size_lit, size_bs, List.size_toArray, List.length_cons, List.length_nil]; omega
    · exact ba_ext (by simp [bl_app, bl_bs, plainT])
  | store _ t nm i e ht hn hi he =>
    have h1 := szb hn
    have h2 := putE_le hi
    have h3 := putE_le he
    refine Eu.f rfl (Eu.t rfl (Eu.t (kids1 (by simp)) (Eu.t rfl (Eu.t (le63 ?_) (Eu.t rfl (Eu.bs (a := i) rfl (Eu.bd (eu_putE hi (by decide)) (Eu.t (le63 ?_) (Eu.t (le63 ?_) (Eu.t rfl (Eu.bs (a := e) rfl (Eu.bd (eu_putE he (by decide)) (Eu.t (le63 ?_) (Eu.t (le63 ?_) (Eu.ret ?_)))))))))))))))
    · simp only [size_lit, List.size_toArray, List.length_cons, List.length_nil]; omega
    · simp only [ByteArray.size_append, size_lit, size_bs, List.size_toArray, List.length_cons, List.length_nil]; omega
    · simp only [ByteArray.size_append, size_lit, size_bs, List.size_toArray, List.length_cons, List.length_nil]; omega
    · simp only [ByteArray.size_append, size_lit, size_bs, List.size_toArray, List.length_cons, List.length_nil]; omega
    · simp only [ByteArray.size_append, size_lit, size_bs, List.size_toArray, List.length_cons, List.length_nil]; omega
    · exact ba_ext (by simp [bl_app, bl_bs, plainT])
  | read _ t nm ht hn =>
    have h1 := szb hn
    refine Eu.f rfl (Eu.f rfl (Eu.t rfl (Eu.t (le63 ?_) (Eu.ret ?_))))
    · simp only [size_lit, List.size_toArray, List.length_cons, List.length_nil]; omega
    · exact ba_ext (by simp [bl_app, bl_bs, plainT])
  | call _ t nm fn l ht hn hf hl he =>
    have h1 := szb hn
    have h2 := szb hf
    have h3 := putsT_len hl he
    refine Eu.f rfl (Eu.f rfl (Eu.f rfl (Eu.t rfl (Eu.t (le63 ?_) (Eu.t (le63 ?_) (Eu.t (le63 ?_) (Eu.bd (eu_puts hl he) (Eu.t (le63 ?_) (Eu.t (le63 ?_) (Eu.ret ?_))))))))))
    · simp only [size_lit, List.size_toArray, List.length_cons, List.length_nil]; omega
    · simp only [ByteArray.size_append, size_lit, size_bs, List.size_toArray, List.length_cons, List.length_nil]; omega
    · simp only [ByteArray.size_append, size_lit, size_bs, List.size_toArray, List.length_cons, List.length_nil]; omega
    · simp only [ByteArray.size_append, size_lit, size_bs, List.size_toArray, List.length_cons, List.length_nil]; omega
    · simp only [ByteArray.size_append, size_lit, size_bs, List.size_toArray, List.length_cons, List.length_nil]; omega
    · exact ba_ext (by simp [bl_app, bl_bs, plainT])
  | ifs => exact absurd rfl h4
  | whil => exact absurd rfl h5
  | brk _ t ht => exact Eu.f rfl (Eu.f rfl (Eu.f rfl (Eu.f rfl (Eu.t rfl (Eu.ret (ba_ext (by simp [bl_bs, plainT])))))))
  | cont _ t ht => exact Eu.f rfl (Eu.f rfl (Eu.f rfl (Eu.f rfl (Eu.f rfl (Eu.t rfl (Eu.ret (ba_ext (by simp [bl_bs, plainT]))))))))
  | ret _ t e ht he =>
    have h2 := putsT_len (l := [e]) (by simp) (by simpa using he)
    refine Eu.f rfl (Eu.f rfl (Eu.f rfl (Eu.f rfl (Eu.f rfl (Eu.f rfl (Eu.t rfl (Eu.bd (eu_puts (l := [e]) (by simp) (by simpa using he)) (Eu.t (le63 ?_) (Eu.t (le63 ?_) (Eu.ret ?_))))))))))
    · simp only [size_lit, size_bs, List.size_toArray, List.length_cons, List.length_nil]; omega
    · simp only [ByteArray.size_append, size_lit, size_bs, List.size_toArray, List.length_cons, List.length_nil]; omega
    · exact ba_ext (by simp [bl_app, bl_bs, plainT])
  | asrt _ t e ht he =>
    have h2 := putsT_len (l := [e]) (by simp) (by simpa using he)
    refine Eu.f rfl (Eu.f rfl (Eu.f rfl (Eu.f rfl (Eu.f rfl (Eu.f rfl (Eu.f rfl (Eu.t rfl (Eu.bd (eu_puts (l := [e]) (by simp) (by simpa using he)) (Eu.t (le63 ?_) (Eu.t (le63 ?_) (Eu.ret ?_)))))))))))
    · simp only [size_lit, size_bs, List.size_toArray, List.length_cons, List.length_nil]; omega
    · simp only [ByteArray.size_append, size_lit, size_bs, List.size_toArray, List.length_cons, List.length_nil]; omega
    · exact ba_ext (by simp [bl_app, bl_bs, plainT])
/-- One statement, with what is ahead of it and behind it. -/
theorem eu_body {β : Type} {dd d : Nat} {s : TreeStmt} (hw : WS dd s) (hd : d ≤ 900) (tg : ByteArray) (htg : tg = tagB s.Tag) (g : List UInt8) {K : Nat → Int → List UInt8 → Option β} {R : β}
    (hB : ∀ g', g'.length + (txtL (d + 1) s.Body).length ≤ 1000000000 → Eu (fun n => S.tree_writer_block n s.Body (d : Int) g') ((d : Int), g' ++ txtL (d + 1) s.Body))
    (hE : ∀ g', g'.length + (txtL (d + 1) s.Else).length ≤ 1000000000 → Eu (fun n => S.tree_writer_block n s.Else (d : Int) g') ((d : Int), g' ++ txtL (d + 1) s.Else))
    (hg : g.length + (txtS d s).length ≤ 1000000000) (k : Eu (fun n => K n (d : Int) (g ++ txtS d s)) R) :
    Eu (fun n => (bif TreeStmt.Kind s == 4 then ((S.tree_puts n (TreeStmt.E s)).bind fun x7 => ((S.tree_writer_linev2 n ((tg) :: (({ data := #[105, 102, 32, 40] }) :: ((x7) :: (({ data := #[41, 32, 123] }) :: ([] : List ByteArray))))) (d : Int) (g)).bind fun x8 => ((S.tree_writer_block n (TreeStmt.Body s) (Prod.fst x8) (Prod.snd x8)).bind fun x9 => (bif inK IntKind.i64 (↑(List.length (List.map TreeStmt.v (TreeStmt.Else s))) : Int) then (bif decide ((↑(List.length (List.map TreeStmt.v (TreeStmt.Else s))) : Int) > 0) then ((S.tree_writer_linev2 n (({ data := #[125, 32, 101, 108, 115, 101, 32, 123] }) :: ([] : List ByteArray)) (Prod.fst x9) (Prod.snd x9)).bind fun x12 => ((S.tree_writer_block n (TreeStmt.Else s) (Prod.fst x12) (Prod.snd x12)).bind fun x13 => ((S.tree_writer_linev2 n (({ data := #[125] }) :: ([] : List ByteArray)) (Prod.fst x13) (Prod.snd x13)).bind fun x14 => (K n (Prod.fst x14) (Prod.snd x14))))) else ((S.tree_writer_linev2 n (({ data := #[125] }) :: ([] : List ByteArray)) (Prod.fst x9) (Prod.snd x9)).bind fun x12 => (K n (Prod.fst x12) (Prod.snd x12)))) else none)))) else (bif TreeStmt.Kind s == 5 then ((S.tree_puts n (TreeStmt.E s)).bind fun x8 => ((S.tree_writer_linev2 n ((tg) :: (({ data := #[119, 104, 105, 108, 101, 32, 40] }) :: ((x8) :: (({ data := #[41, 32, 123] }) :: ([] : List ByteArray))))) (d : Int) (g)).bind fun x9 => ((S.tree_writer_block n (TreeStmt.Body s) (Prod.fst x9) (Prod.snd x9)).bind fun x10 => ((S.tree_writer_linev2 n (({ data := #[125] }) :: ([] : List ByteArray)) (Prod.fst x10) (Prod.snd x10)).bind fun x11 => (K n (Prod.fst x11) (Prod.snd x11)))))) else ((S.tree_Stmt_plain n s).bind fun x8 => ((S.tree_writer_linev2 n ((tg) :: ((x8) :: ([] : List ByteArray))) (d : Int) (g)).bind fun x9 => (K n (Prod.fst x9) (Prod.snd x9))))))) R := by
  subst htg
  by_cases h4 : s.Kind = 4
  · cases hw with
    | ifs d0 t e b c ht he hb hc wb wc =>
      simp only [txtS, stT, if_true, List.length_append] at hg k
      dsimp only
      refine Eu.t rfl (Eu.bd (eu_puts (l := [e]) (by simp) (by simpa using he)) (Eu.bd (eu_line (by omega) (by simp) (by omega)) (Eu.bd (hB _ (by simp only [List.length_append]; omega)) (Eu.t (inK_map (Nat.le_trans hc (by decide))) ?_))))
      cases c with
      | nil =>
        refine Eu.f rfl (Eu.bd (eu_line (by omega) (by simp) (by simp only [List.length_append]; simp at hg; omega)) ?_)
        simpa only [List.append_assoc, List.isEmpty_nil, cond_true, List.nil_append] using k
      | cons c0 cs =>
        simp only [List.isEmpty_cons, cond_false, List.length_append] at hg k
        refine Eu.t (decide_eq_true (by simp)) (Eu.bd (eu_line (by omega) (by simp) (by simp only [List.length_append]; omega)) (Eu.bd (hE _ (by simp only [List.length_append]; omega)) (Eu.bd (eu_line (by omega) (by simp) (by simp only [List.length_append]; omega)) ?_)))
        simpa only [List.append_assoc] using k
    | _ => cases h4
  · by_cases h5 : s.Kind = 5
    · cases hw with
      | whil d0 t e b ht he hb wb =>
        simp only [txtS, stT, if_neg (show ¬ (5 : Int) = 4 by decide), if_true, List.length_append] at hg k
        dsimp only
        refine Eu.f rfl (Eu.t rfl (Eu.bd (eu_puts (l := [e]) (by simp) (by simpa using he)) (Eu.bd (eu_line (by omega) (by simp) (by omega)) (Eu.bd (hB _ (by simp only [List.length_append]; omega)) (Eu.bd (eu_line (by omega) (by simp) (by simp only [List.length_append]; omega)) ?_)))))
        simpa only [List.append_assoc] using k
      | _ => cases h5
    · refine Eu.f (by simp [h4]) (Eu.f (by simp [h5]) (Eu.bd (eu_plain hw h4 h5) ?_))
      have e : txtS d s = lineT d [tagB s.Tag, bs (plainT s.Kind s.Name s.Func s.E)] := by
        cases s
        simp only [txtS, stT]
        rw [if_neg h4, if_neg h5]
      rw [e] at hg k
      exact Eu.bd (eu_line (by omega) (by simp) hg) k
theorem tagB_pos {t : Int} (h : t > 0) : tagB t = ({ data := #[64] } ++ E.FormatInt t ++ { data := #[32] }) := if_pos h
theorem tagB_neg {t : Int} (h : ¬ t > 0) : tagB t = e0 := if_neg h
theorem eu_stmts_l0 {dd d : Nat} {l : List TreeStmt} (hl : l.length ≤ 1000) (hd : d ≤ 900) (hw : ∀ s ∈ l, WS dd s)
    (hB : ∀ s ∈ l, (∀ g', g'.length + (txtL (d + 1) s.Body).length ≤ 1000000000 → Eu (fun n => S.tree_writer_block n s.Body (d : Int) g') ((d : Int), g' ++ txtL (d + 1) s.Body)) ∧
      (∀ g', g'.length + (txtL (d + 1) s.Else).length ≤ 1000000000 → Eu (fun n => S.tree_writer_block n s.Else (d : Int) g') ((d : Int), g' ++ txtL (d + 1) s.Else))) :
    ∀ (k i : Nat) (g : List UInt8), i + k = l.length → g.length + (txtL d (l.drop i)).length ≤ 1000000000 → Eu (fun n => S.tree_writer_stmts_l0 n l ((l.length : Nat) : Int) (i : Int) (d : Int) g) ((d : Int), g ++ txtL d (l.drop i)) := by
  intro k
  induction k with
  | zero =>
    intro i g hi _
    refine Eu.succ (fun n => S.tree_writer_stmts_l0.eq_2 ..) (Eu.f (decide_eq_false (by omega)) (Eu.ret ?_))
    rw [List.drop_eq_nil_of_le (by omega)]; simp [txtL]
  | succ k ih =>
    intro i g hi hg
    have hlt : i < l.length := by omega
    rw [List.drop_eq_getElem_cons hlt] at hg ⊢
    simp only [txtL, List.length_append] at hg ⊢
    obtain ⟨b1, b2⟩ := hB _ (List.getElem_mem hlt)
    have hs := hw _ (List.getElem_mem hlt)
    have next : Eu (fun n => S.tree_writer_stmts_l0 n l ((l.length : Nat) : Int) (IntKind.wrap IntKind.i64 ((i : Int) + 1)) (d : Int) (g ++ txtS d l[i])) ((d : Int), g ++ (txtS d l[i] ++ txtL d (l.drop (i + 1)))) := by
      rw [wrap_s (show i < 4611686018427387904 by omega)]
      refine (ih (i + 1) (g ++ txtS d l[i]) (by omega) (by rw [List.length_append]; omega)).cast ?_
      rw [List.append_assoc]
    refine Eu.succ (fun n => S.tree_writer_stmts_l0.eq_2 ..) (Eu.t (decide_eq_true (by omega)) (Eu.t (inRm hlt) (Eu.bs (nat_get hlt) ?_)))
    by_cases ht : l[i].Tag > 0
    · have h21 := itoa_len l[i].Tag
      have h21' : (E.FormatInt l[i].Tag).size ≤ 22 := by rw [size_bl]; exact h21
      refine Eu.t (decide_eq_true ht) (Eu.t (le63 ?_) (Eu.t (le63 ?_) (eu_body hs hd _ (tagB_pos ht).symm g b1 b2 (by omega) next)))
      · simp only [size_lit, List.size_toArray, List.length_cons, List.length_nil]; omega
      · simp only [ByteArray.size_append, size_lit, List.size_toArray, List.length_cons, List.length_nil]; omega
    · exact Eu.f (decide_eq_false ht) (eu_body hs hd _ (tagB_neg ht).symm g b1 b2 (by omega) next)
theorem eu_block_of {l : List TreeStmt} {d : Nat} {g : List UInt8} (hd : d ≤ 900) (h : Eu (fun n => S.tree_writer_stmts n l ((d + 1 : Nat) : Int) g) (((d + 1 : Nat) : Int), g ++ txtL (d + 1) l)) : Eu (fun n => S.tree_writer_block n l (d : Int) g) ((d : Int), g ++ txtL (d + 1) l) := by
  refine Eu.succ (fun n => S.tree_writer_block.eq_2 ..) ?_
  rw [wrap_s (show d < 4611686018427387904 by omega)]
  refine Eu.bd h (Eu.ret ?_)
  simp only [Prod.mk.injEq, and_true]
  rw [wrap_id (by omega) (by omega)]; omega
theorem eu_stmts_nil {d : Nat} {g : List UInt8} : Eu (fun n => S.tree_writer_stmts n [] (d : Int) g) ((d : Int), g ++ txtL d []) :=
  Eu.succ (fun n => S.tree_writer_stmts.eq_2 ..) (Eu.t rfl (Eu.bd (a := ((d : Int), g)) (Eu.succ (fun n => S.tree_writer_stmts_l0.eq_2 ..) (Eu.f rfl (Eu.ret rfl))) (Eu.ret (by simp [txtL]))))
/-- What the writer writes of statements. -/
theorem eu_stmts : ∀ (dd d : Nat) (l : List TreeStmt) (g : List UInt8), d + dd ≤ 900 → l.length ≤ 1000 → (∀ s ∈ l, WS dd s) → g.length + (txtL d l).length ≤ 1000000000 →
    Eu (fun n => S.tree_writer_stmts n l (d : Int) g) ((d : Int), g ++ txtL d l) := by
  have nilB : ∀ (d : Nat) (g' : List UInt8), d ≤ 900 → Eu (fun n => S.tree_writer_block n [] (d : Int) g') ((d : Int), g' ++ txtL (d + 1) []) := fun d g' hd => eu_block_of hd eu_stmts_nil
  have fin : ∀ (dd d : Nat) (l : List TreeStmt) (g : List UInt8), d ≤ 900 → l.length ≤ 1000 → (∀ s ∈ l, WS dd s) → g.length + (txtL d l).length ≤ 1000000000 →
      (∀ s ∈ l, (∀ g', g'.length + (txtL (d + 1) s.Body).length ≤ 1000000000 → Eu (fun n => S.tree_writer_block n s.Body (d : Int) g') ((d : Int), g' ++ txtL (d + 1) s.Body)) ∧
        (∀ g', g'.length + (txtL (d + 1) s.Else).length ≤ 1000000000 → Eu (fun n => S.tree_writer_block n s.Else (d : Int) g') ((d : Int), g' ++ txtL (d + 1) s.Else))) →
      Eu (fun n => S.tree_writer_stmts n l (d : Int) g) ((d : Int), g ++ txtL d l) := fun dd d l g hd hl hw hg hB => by
    refine Eu.succ (fun n => S.tree_writer_stmts.eq_2 ..) (Eu.t (inK_map (Nat.le_trans hl (by decide))) (Eu.bd (a := ((d : Int), g ++ txtL d l)) ?_ (Eu.ret rfl)))
    have := eu_stmts_l0 hl hd hw hB l.length 0 g (by omega) (by simpa using hg)
    simp only [List.drop_zero] at this
    rw [List.length_map]
    exact this
  intro dd
  induction dd with
  | zero =>
    intro d l g hd hl hw hg
    refine fin 0 d l g (by omega) hl hw hg fun s hs => ?_
    have := hw s hs
    generalize hz : 0 = z at this
    cases this <;> first
      | exact ⟨fun g' _ => nilB d g' (by omega), fun g' _ => nilB d g' (by omega)⟩
      | (exfalso; omega)
  | succ dd ih =>
    intro d l g hd hl hw hg
    refine fin (dd + 1) d l g (by omega) hl hw hg fun s hs => ?_
    cases hw s hs with
    | ifs _ t e b c ht he hb hc wb wc => exact ⟨fun g' h' => eu_block_of (by omega) (ih (d + 1) b g' (by omega) (by omega) wb h'), fun g' h' => eu_block_of (by omega) (ih (d + 1) c g' (by omega) (by omega) wc h')⟩
    | whil _ t e b ht he hb wb => exact ⟨fun g' h' => eu_block_of (by omega) (ih (d + 1) b g' (by omega) (by omega) wb h'), fun g' h' => nilB d g' (by omega)⟩
    | _ => exact ⟨fun g' _ => nilB d g' (by omega), fun g' _ => nilB d g' (by omega)⟩
theorem txtS_bd {dd : Nat} {s : TreeStmt} (h : WS dd s) : ∀ d, d + dd ≤ 10 → (txtS d s).length ≤ 3000 * 31 ^ dd := by
  have one : ∀ d : Nat, 1 ≤ 31 ^ d := fun d => Nat.one_le_pow _ _ (by decide)
  have pl : ∀ {dd : Nat} {s : TreeStmt} (h : WS dd s) (h4 : s.Kind ≠ 4) (h5 : s.Kind ≠ 5) (d : Nat), d ≤ 10 → (txtS d s).length ≤ 3000 * 31 ^ dd := fun {dd s} h h4 h5 d hd => by
    have e : txtS d s = lineT d [tagB s.Tag, bs (plainT s.Kind s.Name s.Func s.E)] := by
      cases s
      simp only [txtS, stT]
      rw [if_neg h4, if_neg h5]
    have h1 := tagB_len s.Tag
    have h2 := plainT_len h
    have h3 := one dd
    rw [e, lineT_len]
    simp only [List.flatMap_cons, List.flatMap_nil, List.length_append, List.length_nil, bl, bl_bs] at h1 ⊢
    omega
  induction h with
  | ifs dd t e b c ht he hb hc wb wc ihb ihc =>
    intro d hd
    have h1 := txtL_bd (d := d + 1) b fun s hs => ihb s hs (d + 1) (by omega)
    have h2 := txtL_bd (d := d + 1) c fun s hs => ihc s hs (d + 1) (by omega)
    have h3 : b.length * (3000 * 31 ^ dd) ≤ 14 * (3000 * 31 ^ dd) := Nat.mul_le_mul_right _ hb
    have h4 : c.length * (3000 * 31 ^ dd) ≤ 14 * (3000 * 31 ^ dd) := Nat.mul_le_mul_right _ hc
    have h5 := one dd
    have h6 := tagB_len t
    have h7 := putsT_len (l := [e]) (by simp) (by simpa using he)
    simp only [bl] at h6
    simp only [txtS, stT, if_true, List.length_append, lineT_len, List.flatMap_cons, List.flatMap_nil, List.length_nil, bl, bl_bs, Nat.pow_succ, List.length_cons]
    cases c.isEmpty <;> simp only [cond_true, cond_false, List.length_append, lineT_len, List.flatMap_cons, List.flatMap_nil, List.length_nil, bl, List.length_cons] <;> omega
  | whil dd t e b ht he hb wb ihb =>
    intro d hd
    have h1 := txtL_bd (d := d + 1) b fun s hs => ihb s hs (d + 1) (by omega)
    have h3 : b.length * (3000 * 31 ^ dd) ≤ 14 * (3000 * 31 ^ dd) := Nat.mul_le_mul_right _ hb
    have h5 := one dd
    have h6 := tagB_len t
    have h7 := putsT_len (l := [e]) (by simp) (by simpa using he)
    simp only [bl] at h6
    simp only [txtS, stT, if_neg (show ¬ (5 : Int) = 4 by decide), if_true, List.length_append, lineT_len, List.flatMap_cons, List.flatMap_nil, List.length_nil, bl, bl_bs, Nat.pow_succ, List.length_cons]
    omega
  | assign dd t nm e ht hn he => exact fun d hd => pl (.assign dd t nm e ht hn he) (by simp) (by simp) d (by omega)
  | store dd t nm i e ht hn hi he => exact fun d hd => pl (.store dd t nm i e ht hn hi he) (by simp) (by simp) d (by omega)
  | read dd t nm ht hn => exact fun d hd => pl (.read dd t nm ht hn) (by simp) (by simp) d (by omega)
  | call dd t nm fn l ht hn hf hl he => exact fun d hd => pl (.call dd t nm fn l ht hn hf hl he) (by simp) (by simp) d (by omega)
  | brk dd t ht => exact fun d hd => pl (.brk dd t ht) (by simp) (by simp) d (by omega)
  | cont dd t ht => exact fun d hd => pl (.cont dd t ht) (by simp) (by simp) d (by omega)
  | ret dd t e ht he => exact fun d hd => pl (.ret dd t e ht he) (by simp) (by simp) d (by omega)
  | asrt dd t e ht he => exact fun d hd => pl (.asrt dd t e ht he) (by simp) (by simp) d (by omega)
end Go.Im

/- Plain laws: how many statements there are, and braces that end one. -/
namespace Go.Im
mutual
def cntS : TreeStmt → Nat
  | ⟨_, _, _, _, _, b, c⟩ => 1 + cntL b + cntL c
def cntL : List TreeStmt → Nat
  | [] => 0
  | s :: l => cntS s + cntL l
end
theorem cntL_app : ∀ a b, cntL (a ++ b) = cntL a + cntL b
  | [], b => by simp [cntL]
  | s :: a, b => by simp only [List.cons_append, cntL, cntL_app a b]; omega
theorem cntL_bd {B : Nat} : ∀ l : List TreeStmt, (∀ s ∈ l, cntS s ≤ B) → cntL l ≤ l.length * B
  | [], _ => by simp [cntL]
  | s :: l, h => by
    have h1 := cntL_bd l fun x hx => h x (by simp [hx])
    have h2 := h s (by simp)
    simp only [cntL, List.length_cons]
    rw [Nat.add_mul]; omega
theorem cntS_bd {d : Nat} {s : TreeStmt} (h : WS d s) : cntS s ≤ 29 ^ d := by
  have one : ∀ d : Nat, 1 ≤ 29 ^ d := fun d => Nat.one_le_pow _ _ (by decide)
  induction h with
  | ifs d t e b c ht he hb hc wb wc ihb ihc =>
    have h1 := cntL_bd b ihb
    have h2 := cntL_bd c ihc
    have h3 : b.length * 29 ^ d ≤ 14 * 29 ^ d := Nat.mul_le_mul_right _ hb
    have h4 : c.length * 29 ^ d ≤ 14 * 29 ^ d := Nat.mul_le_mul_right _ hc
    have := one d
    simp only [cntS, Nat.pow_succ]; omega
  | whil d t e b ht he hb wb ihb =>
    have h1 := cntL_bd b ihb
    have h3 : b.length * 29 ^ d ≤ 14 * 29 ^ d := Nat.mul_le_mul_right _ hb
    have := one d
    simp only [cntS, cntL, Nat.pow_succ]; omega
  | _ => simpa [cntS, cntL] using one _
theorem cntL_ws {d : Nat} {l : List TreeStmt} (h : ∀ s ∈ l, WS d s) (hd : d ≤ 3) (hl : l.length ≤ 1000) : cntL l ≤ 24389000 := by
  have h1 := cntL_bd (B := 24389) l fun s hs => Nat.le_trans (cntS_bd (h s hs)) (Nat.le_trans (Nat.pow_le_pow_right (by decide) hd) (by decide))
  have : l.length * 24389 ≤ 1000 * 24389 := Nat.mul_le_mul_right _ hl
  omega
/-- Below: how many stand there. -/
def undL : List TreeStmt → Nat
  | [] => 0
  | s :: l => (cntL s.Body + cntL s.Else) + undL l
theorem undL_cnt : ∀ l : List TreeStmt, l.length + undL l = cntL l
  | [] => rfl
  | s :: l => by
    have := undL_cnt l
    cases s
    simp only [undL, cntL, cntS, List.length_cons]; omega
theorem wrapN {a : Int} (n : Nat) (h : n ≤ 9000000000000000000) (e : a = (n : Int)) : IntKind.wrap .i64 a = (n : Int) := by
  rw [wrap_id (by omega) (by omega), e]
theorem eu_count_l0 {l : List TreeStmt} (hl : l.length ≤ 1000) (hb : ∀ s ∈ l, Eu (fun n => S.tree_Count n s.Body) (cntL s.Body : Int) ∧ Eu (fun n => S.tree_Count n s.Else) (cntL s.Else : Int)) (hbd : cntL l ≤ 1000000000) :
    ∀ (k i acc : Nat), i + k = l.length → acc + undL (l.drop i) ≤ 2000000000 → Eu (fun n => S.tree_Count_l0 n (acc : Int) l ((l.length : Nat) : Int) (i : Int)) ((acc + undL (l.drop i) : Nat) : Int) := by
  intro k
  induction k with
  | zero =>
    intro i acc hi _
    refine Eu.succ (fun n => S.tree_Count_l0.eq_2 ..) (Eu.f (decide_eq_false (by omega)) (Eu.ret ?_))
    rw [List.drop_eq_nil_of_le (by omega)]; rfl
  | succ k ih =>
    intro i acc hi ha
    have hlt : i < l.length := by omega
    obtain ⟨h1, h2⟩ := hb _ (List.getElem_mem hlt)
    rw [List.drop_eq_getElem_cons hlt] at ha ⊢
    simp only [undL] at ha ⊢
    refine Eu.succ (fun n => S.tree_Count_l0.eq_2 ..) (Eu.t (decide_eq_true (by omega)) (Eu.t (inRm hlt) (Eu.bs (nat_get hlt) (Eu.bd h1 (Eu.bd h2 ?_)))))
    have e1 : IntKind.wrap .i64 ((cntL l[i].Body : Int) + (cntL l[i].Else : Int)) = ((cntL l[i].Body + cntL l[i].Else : Nat) : Int) := wrapN _ (by omega) (by omega)
    have e2 : IntKind.wrap .i64 ((acc : Int) + ((cntL l[i].Body + cntL l[i].Else : Nat) : Int)) = ((acc + (cntL l[i].Body + cntL l[i].Else) : Nat) : Int) := wrapN _ (by omega) (by omega)
    rw [e1, e2, wrap_s (show i < 4611686018427387904 by omega)]
    have := ih (i + 1) (acc + (cntL l[i].Body + cntL l[i].Else)) (by omega) (by omega)
    refine this.cast ?_
    congr 1; omega
theorem eu_count_of {l : List TreeStmt} (hl : l.length ≤ 1000) (hb : ∀ s ∈ l, Eu (fun n => S.tree_Count n s.Body) (cntL s.Body : Int) ∧ Eu (fun n => S.tree_Count n s.Else) (cntL s.Else : Int)) (hbd : cntL l ≤ 1000000000) :
    Eu (fun n => S.tree_Count n l) (cntL l : Int) := by
  have hu := undL_cnt l
  refine Eu.succ (fun n => S.tree_Count.eq_2 ..) (Eu.t (inK_map (Nat.le_trans hl (by decide))) (Eu.bd (a := (cntL l : Int)) ?_ (Eu.ret rfl)))
  have := eu_count_l0 hl hb hbd l.length 0 l.length (by omega) (by simp only [List.drop_zero]; omega)
  simp only [List.drop_zero, hu] at this
  rw [List.length_map]
  exact this
theorem eu_count_nil : Eu (fun n => S.tree_Count n []) ((cntL [] : Nat) : Int) := eu_count_of (by simp) (fun s h => by simp at h) (by simp [cntL])
theorem eu_count : ∀ (d : Nat) (l : List TreeStmt), d ≤ 3 → l.length ≤ 1000 → (∀ s ∈ l, WS d s) → Eu (fun n => S.tree_Count n l) (cntL l : Int) := by
  intro d
  induction d with
  | zero =>
    intro l hd hl hw
    refine eu_count_of hl (fun s hs => ?_) (Nat.le_trans (cntL_ws hw hd hl) (by decide))
    have := hw s hs
    generalize hz : 0 = z at this
    cases this <;> first
      | exact ⟨eu_count_nil, eu_count_nil⟩
      | (exfalso; omega)
  | succ d ih =>
    intro l hd hl hw
    refine eu_count_of hl (fun s hs => ?_) (Nat.le_trans (cntL_ws hw hd hl) (by decide))
    cases hw s hs with
    | ifs _ t e b c ht he hb hc wb wc => exact ⟨ih b (by omega) (by omega) wb, ih c (by omega) (by omega) wc⟩
    | whil _ t e b ht he hb wb => exact ⟨ih b (by omega) (by omega) wb, eu_count_nil⟩
    | _ => exact ⟨eu_count_nil, eu_count_nil⟩
end Go.Im
