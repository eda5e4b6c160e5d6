/- Plain laws (PlF, PlG, PlG2). -/
import Derived.Test.YtfkfbjhegiffhaaGreatDoorTrA1
import Derived.Test.YtfkfbjhegiffhaaGreatDoorPlA
import Derived.Test.YtfkfbjhegiffhaaGreatDoorTrA3
/- Plain laws: what is made of bytes: expressions. -/
set_option linter.unusedVariables false
set_option maxRecDepth 10000
namespace Go.Im
theorem inK_map' {α : Type} {f : α → V} {l : List α} (h : l.length ≤ 9223372036854775807) : inK .i64 (((l.map f).length : Nat) : Int) = true := by
  rw [List.length_map]
  show (decide ((-9223372036854775808 : Int) ≤ (l.length : Int)) && decide ((l.length : Int) ≤ (9223372036854775807 : Int))) = true
  rw [decide_eq_true (by omega), decide_eq_true (by omega)]; rfl
/-- Bytes, as far as they are used. -/
structure FI (f : Law03Feed) : Prop where
  at0 : 0 ≤ f.at_
  at1 : f.at_ ≤ (f.l.length : Int)
  len : f.l.length ≤ 9223372036854775807
  ints : 0 < f.ints.length
  ints1 : f.ints.length ≤ 10
  intsN : ∀ s ∈ f.ints, s ∈ NL
  arrs : 0 < f.arrays.length
  arrs1 : f.arrays.length ≤ 10
  arrsN : ∀ s ∈ f.arrays, s ∈ NL
/-- The same but for where it is. -/
structure Fs (f g : Law03Feed) : Prop where
  left : g.left = f.left
  tag : g.tag = f.tag
  ok : FI g
theorem Fs.trans {f g h : Law03Feed} (a : Fs f g) (b : Fs g h) : Fs f h := ⟨b.left.trans a.left, b.tag.trans a.tag, b.ok⟩
theorem eu_next {f : Law03Feed} (hf : FI f) : EuP (fun n => S.law03_feed_next n f) (fun x => ∃ b : Nat, x.1 = (b : Int) ∧ b ≤ 255 ∧ Fs f x.2) := by
  have h0 := hf.at0
  have h1 := hf.at1
  have hl := hf.len
  refine EuP.eq (fun n => rfl) (EuP.t (inK_map' hl) (EuP.c (fun _ => EuP.ret ⟨0, rfl, by decide, rfl, rfl, hf⟩) fun hc => ?_))
  rw [List.length_map] at hc ⊢
  have hlt : f.at_ < (f.l.length : Int) := by simpa using hc
  have e : IntKind.wrap .i64 (IntKind.wrap .i64 (f.at_ + 1) - 1) = f.at_ := by
    rw [wrap_id (n := f.at_ + 1) (by omega) (by omega), wrap_id (by omega) (by omega)]; omega
  rw [e]
  obtain ⟨i, hi⟩ : ∃ i : Nat, f.at_ = (i : Int) := ⟨f.at_.toNat, by omega⟩
  rw [hi]
  have hil : i < f.l.length := by omega
  refine EuP.t (inR hil) ?_
  rw [show Int.toNat (i : Int) = i by omega]
  refine EuP.el hil fun c _ => EuP.ret ⟨c.toNat, wrapNat (by have := c.toNat_lt; omega), by have := c.toNat_lt; omega, rfl, rfl, ?_⟩
  exact ⟨by show 0 ≤ IntKind.wrap .i64 ((i : Int) + 1); rw [wrap_id (by omega) (by omega)]; omega, by show IntKind.wrap .i64 ((i : Int) + 1) ≤ (f.l.length : Int); rw [wrap_id (by omega) (by omega)]; omega, hf.len, hf.ints, hf.ints1, hf.intsN, hf.arrs, hf.arrs1, hf.arrsN⟩
/-- An element of a list, by the byte. -/
theorem eu_pickN {α β : Type} {Q : β → Prop} {l : List α} {enc : α → V} {b : Nat} {G : Nat → α → Option β} (h0 : 0 < l.length) (h1 : l.length ≤ 100) (hb : b ≤ 255) (k : ∀ a ∈ l, EuP (fun n => G n a) Q) :
    EuP (fun n => (bif inK IntKind.i64 (↑(List.length (List.map enc l)) : Int) then (bif (↑(List.length (List.map enc l)) : Int) != 0 then (bif inRange (Int.tmod (IntKind.wrap IntKind.i64 (Int.tdiv (b : Int) 16)) (↑(List.length (List.map enc l)) : Int)) (List.length (List.map enc l)) then ((l[Int.toNat (Int.tmod (IntKind.wrap IntKind.i64 (Int.tdiv (b : Int) 16)) (↑(List.length (List.map enc l)) : Int))]?).bind fun x => G n x) else none) else none) else none)) Q := by
  have e16 : Int.tdiv (b : Int) 16 = ((b / 16 : Nat) : Int) := tdivN b 16
  rw [e16, wrapNat (by omega), List.length_map, tmodN]
  have hm : b / 16 % l.length < l.length := Nat.mod_lt _ h0
  refine EuP.t (inK_nat (Nat.le_trans h1 (by decide))) (EuP.t (by rw [bne_iff_ne]; omega) (EuP.t (inR hm) ?_))
  rw [Int.toNat_natCast]
  exact EuP.el hm k
theorem eu_pickC {α β : Type} {Q : β → Prop} {l : List α} {b m : Nat} {G : Nat → α → Option β} (hm : l.length = m) (h0 : 0 < m) (hb : b ≤ 255) (k : ∀ a ∈ l, EuP (fun n => G n a) Q) :
    EuP (fun n => (bif inRange (Int.tmod (IntKind.wrap IntKind.i64 (Int.tdiv (b : Int) 16)) (m : Int)) m then ((l[Int.toNat (Int.tmod (IntKind.wrap IntKind.i64 (Int.tdiv (b : Int) 16)) (m : Int))]?).bind fun x => G n x) else none)) Q := by
  have e16 : Int.tdiv (b : Int) 16 = ((b / 16 : Nat) : Int) := tdivN b 16
  rw [e16, wrapNat (by omega), tmodN]
  have hlt : b / 16 % m < m := Nat.mod_lt _ h0
  refine EuP.t (inR hlt) ?_
  rw [Int.toNat_natCast]
  exact EuP.el (by omega) k
theorem eu_pickD {α β : Type} {Q : β → Prop} {l : List α} {b m : Nat} {G : Nat → α → Option β} (hm : l.length = m) (h0 : 0 < m) (k : ∀ a ∈ l, EuP (fun n => G n a) Q) :
    EuP (fun n => (bif inRange (Int.tmod (b : Int) (m : Int)) m then ((l[Int.toNat (Int.tmod (b : Int) (m : Int))]?).bind fun x => G n x) else none)) Q := by
  rw [tmodN]
  have hlt : b % m < m := Nat.mod_lt _ h0
  refine EuP.t (inR hlt) ?_
  rw [Int.toNat_natCast]
  exact EuP.el (by omega) k
theorem bol22 : ∀ o ∈ ([{ data := #[124, 124] }, { data := #[38, 38] }, { data := #[124] }, { data := #[94] }, { data := #[38] }, { data := #[61, 61] }, { data := #[33, 61] }, { data := #[60] }, { data := #[60, 61] }, { data := #[62] }, { data := #[62, 61] }, { data := #[60, 60] }, { data := #[62, 62] }, { data := #[43] }, { data := #[45] }, { data := #[42] }, { data := #[47] }, { data := #[37] }, { data := #[60] }, { data := #[43] }, { data := #[45] }, { data := #[61, 61] }] : List ByteArray), o ∈ BOL := by
  intro o h
  simp only [List.mem_cons, List.not_mem_nil, or_false] at h
  rcases h with rfl | rfl | rfl | rfl | rfl | rfl | rfl | rfl | rfl | rfl | rfl | rfl | rfl | rfl | rfl | rfl | rfl | rfl | rfl | rfl | rfl | rfl <;> simp [BOL]
/-- An expression that is made. -/
theorem eu_expr : ∀ (d : Nat) (f : Law03Feed), d ≤ 1000 → FI f → EuP (fun n => S.law03_feed_expr n (d : Int) f) (fun x => WE d x.1 ∧ Fs f x.2) := by
  intro d
  induction d with
  | zero =>
    intro f _ hf
    refine EuP.succ (fun n => S.law03_feed_expr.eq_2 ..) (EuP.bd (eu_next hf) ?_)
    rintro ⟨b0, g⟩ ⟨b, rfl, hb, hg⟩
    refine EuP.t (by decide) (EuP.c (fun _ => eu_pickC (m := 10) rfl (by decide) hb fun n hn => EuP.ret ⟨.num _ n hn, hg⟩) fun _ => EuP.c (fun _ => ?_) fun hc => ?_)
    · exact eu_pickN hg.ok.ints (Nat.le_trans hg.ok.ints1 (by decide)) hb fun s hs => EuP.ret ⟨.var _ s (hg.ok.intsN s hs), hg⟩
    · exfalso
      have e1 : Int.tmod (b : Int) 16 = ((b % 16 : Nat) : Int) := tmodN b 16
      have e2 : Int.tmod ((b % 16 : Nat) : Int) 7 = ((b % 16 % 7 : Nat) : Int) := tmodN _ 7
      dsimp only at hc
      rw [e1, e2] at hc
      have := of_decide_eq_false hc
      omega
  | succ d ih =>
    intro f hd hf
    have hdw : IntKind.wrap .i64 (((d + 1 : Nat) : Int) - 1) = (d : Int) := by rw [wrap_id (by omega) (by omega)]; omega
    refine EuP.succ (fun n => S.law03_feed_expr.eq_2 ..) (EuP.bd (eu_next hf) ?_)
    rintro ⟨b0, g⟩ ⟨b, rfl, hb, hg⟩
    rw [hdw]
    refine EuP.f (decide_eq_false (by omega)) (EuP.c (fun _ => eu_pickC (m := 10) rfl (by decide) hb fun n hn => EuP.ret ⟨.num _ n hn, hg⟩) fun _ => EuP.c (fun _ => ?_) fun _ => EuP.c (fun _ => ?_) fun _ => EuP.c (fun _ => ?_) fun _ => ?_)
    · exact eu_pickN hg.ok.ints (Nat.le_trans hg.ok.ints1 (by decide)) hb fun s hs => EuP.ret ⟨.var _ s (hg.ok.intsN s hs), hg⟩
    · refine eu_pickN hg.ok.arrs (Nat.le_trans hg.ok.arrs1 (by decide)) hb fun s hs => EuP.bd (ih g (by omega) hg.ok) ?_
      rintro ⟨k, g2⟩ ⟨hk, hg2⟩
      exact EuP.ret ⟨.idx d s k (hg.ok.arrsN s hs) hk, hg.trans hg2⟩
    · refine eu_pickC (m := 3) rfl (by decide) hb fun o ho => EuP.bd (ih g (by omega) hg.ok) ?_
      rintro ⟨k, g2⟩ ⟨hk, hg2⟩
      exact EuP.ret ⟨.un d o k ho hk, hg.trans hg2⟩
    · refine EuP.bd (ih g (by omega) hg.ok) ?_
      rintro ⟨x, g2⟩ ⟨hx, hg2⟩
      refine EuP.bd (eu_next hg2.ok) ?_
      rintro ⟨c0, g3⟩ ⟨c, rfl, hc, hg3⟩
      refine eu_pickD (m := 22) rfl (by decide) fun o ho => EuP.bd (ih g3 (by omega) hg3.ok) ?_
      rintro ⟨y, g4⟩ ⟨hy, hg4⟩
      exact EuP.ret ⟨.bin d o x y (bol22 o ho) hx hy, ((hg.trans hg2).trans hg3).trans hg4⟩
end Go.Im

/- Plain laws: what is made of bytes: statements. -/
set_option linter.unusedSimpArgs false
set_option maxHeartbeats 4000000
namespace Go.Im
/-- Behind statements: no more are left, and so many tags. -/
structure FL (k : Int) (f g : Law03Feed) : Prop where
  ok : FI g
  l0 : 0 ≤ g.left
  l1 : g.left ≤ f.left
  t0 : 0 ≤ g.tag
  t1 : g.tag + g.left ≤ f.tag + f.left + k
structure FB (f : Law03Feed) : Prop where
  ok : FI f
  l0 : 0 ≤ f.left
  l1 : f.left ≤ 100
  t0 : 0 ≤ f.tag
  t1 : f.tag + f.left ≤ 1000
theorem FL.of {f g : Law03Feed} (hb : FB f) (h : Fs f g) : FL 0 f g := ⟨h.ok, by rw [h.left]; exact hb.l0, by rw [h.left]; omega, by rw [h.tag]; exact hb.t0, by rw [h.left, h.tag]; omega⟩
theorem FL.trans {f g h : Law03Feed} (a : FL 0 f g) (b : FL 0 g h) : FL 0 f h := by
  obtain ⟨a1, a2, a3, a4, a5⟩ := a
  obtain ⟨b1, b2, b3, b4, b5⟩ := b
  exact ⟨b1, b2, by omega, b4, by omega⟩
theorem FL.fb {f g : Law03Feed} (hb : FB f) (a : FL 0 f g) : FB g := by
  obtain ⟨a1, a2, a3, a4, a5⟩ := a
  obtain ⟨b1, b2, b3, b4, b5⟩ := hb
  exact ⟨a1, a2, by omega, a4, by omega⟩
abbrev LS := List TreeStmt
abbrev LX := List TreeExpr
abbrev R7 := (Law03Feed × Int × Int × ByteArray × ByteArray × LX × Int × Int × ByteArray × ByteArray × LX × LX) ⊕ (Law03Feed × Int × Int × ByteArray × ByteArray × LX × Int × Int × ByteArray × ByteArray × LX) ⊕ (Law03Feed × Int × Int × ByteArray × ByteArray × LS × LS × LX × Int × Int × ByteArray × ByteArray × LS × LS × LX × LX) ⊕ (Law03Feed × Int × Int × ByteArray × ByteArray × LS × LX × Int × Int × ByteArray × ByteArray × LS × LX × LX)
def P7 (d : Nat) (f : Law03Feed) : R7 → Prop
  | Sum.inl (g, a, b, c, e, _, _, _, _, _, _, es) => WS d ⟨a, b, c, e, es, [], []⟩ ∧ FL 0 f g
  | Sum.inr (Sum.inl (g, a, b, c, e, _, _, _, _, _, es)) => WS d ⟨a, b, c, e, es, [], []⟩ ∧ FL 0 f g
  | Sum.inr (Sum.inr (Sum.inl (g, a, b, c, e, bo, el, _, _, _, _, _, _, _, _, es))) => WS d ⟨a, b, c, e, es, bo, el⟩ ∧ FL 0 f g
  | Sum.inr (Sum.inr (Sum.inr (g, a, b, c, e, bo, _, _, _, _, _, _, _, es))) => WS d ⟨a, b, c, e, es, bo, []⟩ ∧ FL 0 f g
abbrev R4 := (Law03Feed × Int × Int × ByteArray × ByteArray × Int × Int × ByteArray × ByteArray × LX × LX × LX) ⊕ (Law03Feed × Int × Int × ByteArray × ByteArray × Int × Int × ByteArray × ByteArray × LX × LX) ⊕ (Law03Feed × Int × Int × ByteArray × ByteArray × LS × LS × Int × Int × ByteArray × ByteArray × LS × LS × LX × LX × LX) ⊕ (Law03Feed × Int × Int × ByteArray × ByteArray × LS × Int × Int × ByteArray × ByteArray × LS × LX × LX × LX)
def P4 (d : Nat) (f : Law03Feed) : R4 → Prop
  | Sum.inl (g, a, b, c, e, _, _, _, _, _, _, es) => WS d ⟨a, b, c, e, es, [], []⟩ ∧ FL 0 f g
  | Sum.inr (Sum.inl (g, a, b, c, e, _, _, _, _, _, es)) => WS d ⟨a, b, c, e, es, [], []⟩ ∧ FL 0 f g
  | Sum.inr (Sum.inr (Sum.inl (g, a, b, c, e, bo, el, _, _, _, _, _, _, _, _, es))) => WS d ⟨a, b, c, e, es, bo, el⟩ ∧ FL 0 f g
  | Sum.inr (Sum.inr (Sum.inr (g, a, b, c, e, bo, _, _, _, _, _, _, _, es))) => WS d ⟨a, b, c, e, es, bo, []⟩ ∧ FL 0 f g
theorem nlG : (⟨#[103]⟩ : ByteArray) ∈ NL := by simp [NL]
theorem nlH : (⟨#[104]⟩ : ByteArray) ∈ NL := by simp [NL]
theorem eu_c7 {d : Nat} {s1 : Int} {s2 : Bool} {b : Nat} {k t : Int} {f : Law03Feed} (hb : b ≤ 255) (ht : 0 ≤ t ∧ t ≤ 1000000) (hf : FB f)
    (hS : k = 5 ∨ k = 6 ∨ k = 7 ∨ k = 8 → ∀ (m : Nat) (lp : Bool) (g : Law03Feed), m ≤ 14 → FB g → EuP (fun n => S.law03_feed_stmts n (IntKind.wrap IntKind.i64 (s1 - 1)) (m : Int) lp g) (fun x => (x.1.length ≤ 14 ∧ ∀ s ∈ x.1, ∃ d', d = d' + 1 ∧ WS d' s) ∧ FL 0 g x.2))
    (hk : k = 5 ∨ k = 6 ∨ k = 7 ∨ k = 8 → 0 < d) (h1 : Int) (h2 : Int) (h3 h4 : ByteArray) (g2 : LX) :
    EuP (fun n => S.law03_feed_stmt_c7 n s1 s2 (b : Int) k f h1 h2 h3 h4 g2 0 t e0 e0 []) (P7 d f) := by
  have hI0 := hf.ok.ints
  have hI1 : f.ints.length ≤ 100 := Nat.le_trans hf.ok.ints1 (by decide)
  have hA0 := hf.ok.arrs
  have hA1 : f.arrays.length ≤ 100 := Nat.le_trans hf.ok.arrs1 (by decide)
  have hIN := hf.ok.intsN
  have hAN := hf.ok.arrsN
  -- the parts
  have assign : ∀ G : Law03Feed → ByteArray → TreeExpr → R7, (∀ g nm e, WE 2 e → nm ∈ NL → Fs f g → P7 d f (G g nm e)) → EuP (fun n => (bif inK IntKind.i64 (↑(List.length (List.map (V.str true) (f.ints))) : Int) then (bif (↑(List.length (List.map (V.str true) (f.ints))) : Int) != 0 then (bif inRange (Int.tmod (IntKind.wrap IntKind.i64 (Int.tdiv (b : Int) 16)) (↑(List.length (List.map (V.str true) (f.ints))) : Int)) (List.length (List.map (V.str true) (f.ints))) then ((((f.ints) : List ByteArray)[Int.toNat (Int.tmod (IntKind.wrap IntKind.i64 (Int.tdiv (b : Int) 16)) (↑(List.length (List.map (V.str true) (f.ints))) : Int))]?).bind fun x5 => ((S.law03_feed_expr n (2) f).bind fun x6 => (some (G (Prod.snd x6) x5 (Prod.fst x6))))) else none) else none) else none)) (P7 d f) := fun G hG =>
    eu_pickN hI0 hI1 hb fun s hs => EuP.bd (eu_expr 2 f (by decide) hf.ok) fun x hx => EuP.ret (hG _ _ _ hx.1 (hIN s hs) hx.2)
  have wa : ∀ {g nm e}, WE 2 e → nm ∈ NL → Fs f g → WS d ⟨0, t, nm, e0, [e], [], []⟩ ∧ FL 0 f g := fun he hn hg => ⟨.assign _ _ _ _ ht hn (he.mono (by decide)), .of hf hg⟩
  have store : ∀ G : Law03Feed → ByteArray → TreeExpr → TreeExpr → R7, (∀ g nm i e, WE 1 i → WE 2 e → nm ∈ NL → Fs f g → P7 d f (G g nm i e)) → EuP (fun n => (bif inK IntKind.i64 (↑(List.length (List.map (V.str true) (f.arrays))) : Int) then (bif (↑(List.length (List.map (V.str true) (f.arrays))) : Int) != 0 then (bif inRange (Int.tmod (IntKind.wrap IntKind.i64 (Int.tdiv (b : Int) 16)) (↑(List.length (List.map (V.str true) (f.arrays))) : Int)) (List.length (List.map (V.str true) (f.arrays))) then ((((f.arrays) : List ByteArray)[Int.toNat (Int.tmod (IntKind.wrap IntKind.i64 (Int.tdiv (b : Int) 16)) (↑(List.length (List.map (V.str true) (f.arrays))) : Int))]?).bind fun x8 => ((S.law03_feed_expr n (1) f).bind fun x9 => ((S.law03_feed_expr n (2) (Prod.snd x9)).bind fun x10 => (some (G (Prod.snd x10) x8 (Prod.fst x9) (Prod.fst x10)))))) else none) else none) else none)) (P7 d f) := fun G hG =>
    eu_pickN hA0 hA1 hb fun s hs => EuP.bd (eu_expr 1 f (by decide) hf.ok) fun x hx => EuP.bd (eu_expr 2 x.2 (by decide) hx.2.ok) fun y hy => EuP.ret (hG _ _ _ _ hx.1 hy.1 (hAN s hs) (hx.2.trans hy.2))
  have ws : ∀ {g nm i e}, WE 1 i → WE 2 e → nm ∈ NL → Fs f g → WS d ⟨1, t, nm, e0, [i, e], [], []⟩ ∧ FL 0 f g := fun hi he hn hg => ⟨.store _ _ _ _ _ ht hn (hi.mono (by decide)) (he.mono (by decide)), .of hf hg⟩
  have dcase : 0 < d → ∃ d', d = d' + 1 := fun h => ⟨d - 1, by omega⟩
  have wl : ∀ {l : LS}, (l.length ≤ 14 ∧ ∀ s ∈ l, ∃ d', d = d' + 1 ∧ WS d' s) → ∀ d', d = d' + 1 → ∀ s ∈ l, WS d' s := fun h d' hd s hs => by
    obtain ⟨d2, h2, h3⟩ := h.2 s hs
    have : d2 = d' := by omega
    exact this ▸ h3
  have ifs : (k = 5 ∨ k = 6 ∨ k = 7 ∨ k = 8) → ∀ lp, EuP (fun n => ((S.law03_feed_expr n (2) f).bind fun x8 => ((S.law03_feed_stmts n (IntKind.wrap IntKind.i64 (s1 - 1)) (3) lp (Prod.snd x8)).bind fun x9 => (bif decide (Int.tmod (b : Int) 32 < 16) then ((S.law03_feed_stmts n (IntKind.wrap IntKind.i64 (s1 - 1)) (2) lp (Prod.snd x9)).bind fun x11 => (some (Sum.inr (Sum.inr (Sum.inl ((Prod.snd x11), (4), (t), (e0), (e0), (Prod.fst x9), (Prod.fst x11), (g2), (4), (t), (e0), (e0), (Prod.fst x9), (Prod.fst x11), ([] : LX), ((Prod.fst x8) :: ([] : List TreeExpr)))))))) else (some (Sum.inr (Sum.inr (Sum.inr ((Prod.snd x9), (4), (t), (e0), (e0), (Prod.fst x9), (g2), (4), (t), (e0), (e0), (Prod.fst x9), ([] : LX), ((Prod.fst x8) :: ([] : List TreeExpr)))))))))) ) (P7 d f) := fun hkk lp => by
    obtain ⟨d', rfl⟩ := dcase (hk hkk)
    refine EuP.bd (eu_expr 2 f (by decide) hf.ok) fun x hx => EuP.bd (hS hkk 3 lp x.2 (by decide) (FL.fb hf (.of hf hx.2))) fun y hy => EuP.c (fun _ => EuP.bd (hS hkk 2 lp y.2 (by decide) (FL.fb (FL.fb hf (.of hf hx.2)) hy.2)) fun z hz => EuP.ret ?_) (fun _ => EuP.ret ?_)
    · exact ⟨.ifs d' t x.1 y.1 z.1 ht (hx.1.mono (by decide)) hy.1.1 hz.1.1 (wl hy.1 d' rfl) (wl hz.1 d' rfl), ((FL.of hf hx.2).trans hy.2).trans hz.2⟩
    · exact ⟨.ifs d' t x.1 y.1 [] ht (hx.1.mono (by decide)) hy.1.1 (by simp) (wl hy.1 d' rfl) (fun s h => by simp at h), (FL.of hf hx.2).trans hy.2⟩
  have whil : (k = 5 ∨ k = 6 ∨ k = 7 ∨ k = 8) → EuP (fun n => ((S.law03_feed_expr n (2) f).bind fun x10 => ((S.law03_feed_stmts n (IntKind.wrap IntKind.i64 (s1 - 1)) (3) (true) (Prod.snd x10)).bind fun x11 => (some (Sum.inr (Sum.inr (Sum.inr ((Prod.snd x11), (5), (t), (e0), (e0), (Prod.fst x11), (g2), (5), (t), (e0), (e0), (Prod.fst x11), ([] : LX), ((Prod.fst x10) :: ([] : List TreeExpr)))))))))) (P7 d f) := fun hkk => by
    obtain ⟨d', rfl⟩ := dcase (hk hkk)
    refine EuP.bd (eu_expr 2 f (by decide) hf.ok) fun x hx => EuP.bd (hS hkk 3 true x.2 (by decide) (FL.fb hf (.of hf hx.2))) fun y hy => EuP.ret ?_
    exact ⟨.whil d' t x.1 y.1 ht (hx.1.mono (by decide)) hy.1.1 (wl hy.1 d' rfl), (FL.of hf hx.2).trans hy.2⟩
  have read : EuP (fun n => (bif inK IntKind.i64 (↑(List.length (List.map (V.str true) (f.ints))) : Int) then (bif (↑(List.length (List.map (V.str true) (f.ints))) : Int) != 0 then (bif inRange (Int.tmod (IntKind.wrap IntKind.i64 (Int.tdiv (b : Int) 16)) (↑(List.length (List.map (V.str true) (f.ints))) : Int)) (List.length (List.map (V.str true) (f.ints))) then ((((f.ints) : List ByteArray)[Int.toNat (Int.tmod (IntKind.wrap IntKind.i64 (Int.tdiv (b : Int) 16)) (↑(List.length (List.map (V.str true) (f.ints))) : Int))]?).bind fun x9 => (some (Sum.inr (Sum.inl (f, (2), (t), (x9), (e0), (g2), (2), (t), (x9), (e0), ([] : LX)))) : Option R7)) else none) else none) else none)) (P7 d f) :=
    eu_pickN hI0 hI1 hb fun s hs => EuP.ret ⟨.read _ _ _ ht (hIN s hs), .of hf ⟨rfl, rfl, hf.ok⟩⟩
  have one : ∀ (m : Nat) (hm : m ≤ 2) (K : Int), (∀ e, WE m e → WS d ⟨K, t, e0, e0, [e], [], []⟩) → EuP (fun n => ((S.law03_feed_expr n (m : Int) f).bind fun x14 => (some (Sum.inl ((Prod.snd x14), (K), (t), (e0), (e0), (g2), (K), (t), (e0), (e0), ([] : LX), ((Prod.fst x14) :: ([] : List TreeExpr)))) : Option R7))) (P7 d f) := fun m hm K hK =>
    EuP.bd (eu_expr m f (by omega) hf.ok) fun x hx => EuP.ret ⟨hK _ hx.1, .of hf hx.2⟩
  have asrt := one 2 (by decide) 9 fun e he => .asrt _ _ _ ht (he.mono (by decide))
  have retn := one 1 (by decide) 8 fun e he => .ret _ _ _ ht (he.mono (by decide))
  have call : EuP (fun n => (bif inK IntKind.i64 (↑(List.length (List.map (V.str true) (f.ints))) : Int) then (bif (↑(List.length (List.map (V.str true) (f.ints))) : Int) != 0 then (bif inRange (Int.tmod (IntKind.wrap IntKind.i64 (Int.tdiv (b : Int) 16)) (↑(List.length (List.map (V.str true) (f.ints))) : Int)) (List.length (List.map (V.str true) (f.ints))) then ((((f.ints) : List ByteArray)[Int.toNat (Int.tmod (IntKind.wrap IntKind.i64 (Int.tdiv (b : Int) 16)) (↑(List.length (List.map (V.str true) (f.ints))) : Int))]?).bind fun x14 => ((S.law03_feed_expr n (1) f).bind fun x15 => (bif decide (Int.tmod (b : Int) 32 < 16) then ((S.law03_feed_expr n (1) (Prod.snd x15)).bind fun x17 => (some (Sum.inl ((Prod.snd x17), (3), (t), (x14), ({ data := #[104] }), (g2), (3), (t), (x14), ({ data := #[104] }), ([] : LX), ((Prod.fst x15) :: ((Prod.fst x17) :: ([] : List TreeExpr))))) : Option R7)) else (some (Sum.inl ((Prod.snd x15), (3), (t), (x14), ({ data := #[103] }), (g2), (3), (t), (x14), ({ data := #[103] }), ([] : LX), ((Prod.fst x15) :: ([] : List TreeExpr)))))))) else none) else none) else none)) (P7 d f) :=
    eu_pickN hI0 hI1 hb fun s hs => EuP.bd (eu_expr 1 f (by decide) hf.ok) fun x hx => EuP.c (fun _ => EuP.bd (eu_expr 1 x.2 (by decide) hx.2.ok) fun y hy => EuP.ret ⟨.call _ _ _ _ _ ht (hIN s hs) nlH (by simp) (fun e he => by
      simp only [List.mem_cons, List.not_mem_nil, or_false] at he
      rcases he with rfl | rfl
      · exact hx.1.mono (by decide)
      · exact hy.1.mono (by decide)), .of hf (hx.2.trans hy.2)⟩) (fun _ => EuP.ret ⟨.call _ _ _ _ _ ht (hIN s hs) nlG (by simp) (fun e he => by
      simp only [List.mem_cons, List.not_mem_nil, or_false] at he
      subst he
      exact hx.1.mono (by decide)), .of hf hx.2⟩)
  have brk : EuP (fun n => (some (Sum.inr (Sum.inl (f, (6), (t), (e0), (e0), (g2), (6), (t), (e0), (e0), ([] : LX)))) : Option R7)) (P7 d f) := EuP.ret ⟨.brk _ _ ht, .of hf ⟨rfl, rfl, hf.ok⟩⟩
  have cont : EuP (fun n => (some (Sum.inr (Sum.inl (f, (7), (t), (e0), (e0), (g2), (7), (t), (e0), (e0), ([] : LX)))) : Option R7)) (P7 d f) := EuP.ret ⟨.cont _ _ ht, .of hf ⟨rfl, rfl, hf.ok⟩⟩
  have asg := assign (fun g nm e => Sum.inl (g, 0, t, nm, e0, g2, 0, t, nm, e0, [], [e])) fun g nm e he hn hg => wa he hn hg
  have sto := store (fun g nm i e => Sum.inl (g, 1, t, nm, e0, g2, 1, t, nm, e0, [], [i, e])) fun g nm i e hi he hn hg => ws hi he hn hg
  have q5 : (k == 5) = true → k = 5 ∨ k = 6 ∨ k = 7 ∨ k = 8 := fun h => .inl (by simpa using h)
  have q6 : (k == 6) = true → k = 5 ∨ k = 6 ∨ k = 7 ∨ k = 8 := fun h => .inr (.inl (by simpa using h))
  have q7 : (k == 7) = true → k = 5 ∨ k = 6 ∨ k = 7 ∨ k = 8 := fun h => .inr (.inr (.inl (by simpa using h)))
  have q8 : (k == 8) = true → k = 5 ∨ k = 6 ∨ k = 7 ∨ k = 8 := fun h => .inr (.inr (.inr (by simpa using h)))
  refine EuP.succ (fun n => S.law03_feed_stmt_c7.eq_2 ..) (EuP.c (fun _ => ?_) (fun _ => ?_))
  · exact EuP.c (fun _ => asg) fun _ => EuP.c (fun _ => asg) fun _ => EuP.c (fun _ => sto) fun _ => EuP.c (fun _ => sto) fun _ => EuP.c (fun _ => read) fun _ => EuP.c (fun h => ifs (q5 h) s2) fun _ => EuP.c (fun h => ifs (q6 h) s2) fun _ => EuP.c (fun h => whil (q7 h)) fun _ => EuP.c (fun h => whil (q8 h)) fun _ => EuP.c (fun _ => call) fun _ => EuP.c (fun _ => asrt) fun _ => EuP.c (fun _ => retn) fun _ => asg
  · exact EuP.c (fun _ => sto) fun _ => EuP.c (fun _ => sto) fun _ => EuP.c (fun _ => read) fun _ => EuP.c (fun h => ifs (q5 h) s2) fun _ => EuP.c (fun h => ifs (q6 h) s2) fun _ => EuP.c (fun h => whil (q7 h)) fun _ => EuP.c (fun h => whil (q8 h)) fun _ => EuP.c (fun _ => call) fun _ => EuP.c (fun _ => brk) fun _ => EuP.c (fun _ => cont) fun _ => EuP.c (fun _ => asrt) fun _ => EuP.c (fun _ => retn) fun _ => asg
end Go.Im

/- Plain laws: what is made of bytes: statements, and lists of them. -/
namespace Go.Im
theorem eu_c4 {d : Nat} {s2 : Bool} {b : Nat} {t : Int} {f : Law03Feed} {dd : Int} (hb : b ≤ 255) (ht : 0 ≤ t ∧ t ≤ 1000000) (hf : FB f) (hdd : dd = (d : Int))
    (hS : 0 < d → ∀ (m : Nat) (lp : Bool) (g : Law03Feed), m ≤ 14 → FB g → EuP (fun n => S.law03_feed_stmts n (IntKind.wrap IntKind.i64 (dd - 1)) (m : Int) lp g) (fun x => (x.1.length ≤ 14 ∧ ∀ s ∈ x.1, ∃ d', d = d' + 1 ∧ WS d' s) ∧ FL 0 g x.2))
    (k : Int) : EuP (fun n => S.law03_feed_stmt_c4 n dd s2 (b : Int) k f 0 0 e0 e0 0 t e0 e0 [] []) (P4 d f) := by
  refine EuP.succ (fun n => S.law03_feed_stmt_c4.eq_2 ..) (EuP.c (fun h1 => ?_) (fun h1 => ?_))
  · have hd0 : d = 0 := by have := of_decide_eq_true h1; omega
    refine EuP.c (fun _ => ?_) fun h5 => EuP.c (fun _ => ?_) fun h6 => EuP.c (fun _ => ?_) fun h7 => ?_
    · refine EuP.bd (EuP.of (P := fun x => x = _) (Eu.eq (fun n => rfl) (Eu.t rfl (Eu.ret rfl))) rfl) ?_
      rintro _ rfl
      refine EuP.bd (eu_c7 (d := d) hb ht hf (fun h => by dsimp only at h; omega) (fun h => by dsimp only at h; omega) _ _ _ _ _) ?_
      rintro (⟨_, _, _, _, _, _, _, _, _, _, _, _⟩ | ⟨_, _, _, _, _, _, _, _, _, _, _⟩ | ⟨_, _, _, _, _, _, _, _, _, _, _, _, _, _, _, _⟩ | ⟨_, _, _, _, _, _, _, _, _, _, _, _, _, _⟩) ⟨hw, hl⟩ <;> exact EuP.ret ⟨hw, hl⟩
    · refine EuP.bd (EuP.of (P := fun x => x = _) (Eu.eq (fun n => rfl) (Eu.t rfl (Eu.ret rfl))) rfl) ?_
      rintro _ rfl
      refine EuP.bd (eu_c7 (d := d) hb ht hf (fun h => by dsimp only at h; omega) (fun h => by dsimp only at h; omega) _ _ _ _ _) ?_
      rintro (⟨_, _, _, _, _, _, _, _, _, _, _, _⟩ | ⟨_, _, _, _, _, _, _, _, _, _, _⟩ | ⟨_, _, _, _, _, _, _, _, _, _, _, _, _, _, _, _⟩ | ⟨_, _, _, _, _, _, _, _, _, _, _, _, _, _⟩) ⟨hw, hl⟩ <;> exact EuP.ret ⟨hw, hl⟩
    · refine EuP.bd (EuP.of (P := fun x => x = _) (Eu.eq (fun n => rfl) (Eu.t rfl (Eu.ret rfl))) rfl) ?_
      rintro _ rfl
      refine EuP.bd (eu_c7 (d := d) hb ht hf (fun h => by dsimp only at h; omega) (fun h => by dsimp only at h; omega) _ _ _ _ _) ?_
      rintro (⟨_, _, _, _, _, _, _, _, _, _, _, _⟩ | ⟨_, _, _, _, _, _, _, _, _, _, _⟩ | ⟨_, _, _, _, _, _, _, _, _, _, _, _, _, _, _, _⟩ | ⟨_, _, _, _, _, _, _, _, _, _, _, _, _, _⟩) ⟨hw, hl⟩ <;> exact EuP.ret ⟨hw, hl⟩
    · cases h8 : (k == 8) with
      | true =>
        refine EuP.bd (EuP.of (P := fun x => x = _) (Eu.eq (fun n => rfl) (Eu.t rfl (Eu.ret rfl))) rfl) ?_
        rintro _ rfl
        refine EuP.bd (eu_c7 (d := d) hb ht hf (fun h => by dsimp only at h; omega) (fun h => by dsimp only at h; omega) _ _ _ _ _) ?_
        rintro (⟨_, _, _, _, _, _, _, _, _, _, _, _⟩ | ⟨_, _, _, _, _, _, _, _, _, _, _⟩ | ⟨_, _, _, _, _, _, _, _, _, _, _, _, _, _, _, _⟩ | ⟨_, _, _, _, _, _, _, _, _, _, _, _, _, _⟩) ⟨hw, hl⟩ <;> exact EuP.ret ⟨hw, hl⟩
      | false =>
        have n5 : k ≠ 5 := by simpa using h5
        have n6 : k ≠ 6 := by simpa using h6
        have n7 : k ≠ 7 := by simpa using h7
        have n8 : k ≠ 8 := by simpa using h8
        refine EuP.bd (EuP.of (P := fun x => x = _) (Eu.eq (fun n => rfl) (Eu.f rfl (Eu.ret rfl))) rfl) ?_
        rintro _ rfl
        refine EuP.bd (eu_c7 (d := d) hb ht hf (fun h => by dsimp only at h; omega) (fun h => by dsimp only at h; omega) _ _ _ _ _) ?_
        rintro (⟨_, _, _, _, _, _, _, _, _, _, _, _⟩ | ⟨_, _, _, _, _, _, _, _, _, _, _⟩ | ⟨_, _, _, _, _, _, _, _, _, _, _, _, _, _, _, _⟩ | ⟨_, _, _, _, _, _, _, _, _, _, _, _, _, _⟩) ⟨hw, hl⟩ <;> exact EuP.ret ⟨hw, hl⟩
  · have hd1 : 0 < d := by have := of_decide_eq_false h1; omega
    refine EuP.bd (EuP.of (P := fun x => x = _) (Eu.eq (fun n => rfl) (Eu.f rfl (Eu.ret rfl))) rfl) ?_
    rintro _ rfl
    refine EuP.bd (eu_c7 hb ht hf (fun _ => hS hd1) (fun _ => hd1) _ _ _ _ _) ?_
    rintro (⟨_, _, _, _, _, _, _, _, _, _, _, _⟩ | ⟨_, _, _, _, _, _, _, _, _, _, _⟩ | ⟨_, _, _, _, _, _, _, _, _, _, _, _, _, _, _, _⟩ | ⟨_, _, _, _, _, _, _, _, _, _, _, _, _, _⟩) ⟨hw, hl⟩ <;> exact EuP.ret ⟨hw, hl⟩
theorem FL.weak {k : Int} {f g : Law03Feed} (h : FL 0 f g) (hk : 0 ≤ k) : FL k f g := ⟨h.ok, h.l0, h.l1, h.t0, by have := h.t1; omega⟩
theorem eu_stmt {d : Nat} {lp : Bool} {f : Law03Feed} (hf : FB f) (hT : f.tag + f.left ≤ 999)
    (hS : 0 < d → ∀ (m : Nat) (lp : Bool) (g : Law03Feed), m ≤ 14 → FB g → EuP (fun n => S.law03_feed_stmts n (IntKind.wrap IntKind.i64 ((d : Int) - 1)) (m : Int) lp g) (fun x => (x.1.length ≤ 14 ∧ ∀ s ∈ x.1, ∃ d', d = d' + 1 ∧ WS d' s) ∧ FL 0 g x.2)) :
    EuP (fun n => S.law03_feed_stmt n (d : Int) lp f) (fun x => WS d x.1 ∧ FL 1 f x.2) := by
  refine EuP.succ (fun n => S.law03_feed_stmt.eq_2 ..) (EuP.bd (eu_next hf.ok) ?_)
  rintro ⟨b0, g⟩ ⟨b, rfl, hb, hg⟩
  have hgl := FL.of hf hg
  have hgb := FL.fb hf hgl
  have hgt := hg.tag
  have hgl' := hg.left
  dsimp only at hgt hgl'
  have htb := hf.t0
  have hlb := hf.l0
  have plain : ∀ {k : Int}, EuP (fun n => S.law03_feed_stmt_c4 n (d : Int) lp (b : Int) k g 0 0 e0 e0 0 0 e0 e0 [] []) (P4 d g) := eu_c4 hb (by decide) hgb rfl hS _
  refine EuP.c (fun _ => EuP.c (fun _ => ?_) (fun _ => ?_)) (fun _ => ?_)
  · have ew : IntKind.wrap .i64 (g.tag + 1) = g.tag + 1 := wrap_id (by omega) (by omega)
    have hT' : FB { g with tag := g.tag + 1 } := ⟨⟨hg.ok.at0, hg.ok.at1, hg.ok.len, hg.ok.ints, hg.ok.ints1, hg.ok.intsN, hg.ok.arrs, hg.ok.arrs1, hg.ok.arrsN⟩, hgb.l0, hgb.l1, by show 0 ≤ g.tag + 1; omega, by show g.tag + 1 + g.left ≤ 1000; omega⟩
    dsimp only
    rw [ew]
    refine EuP.bd (eu_c4 (t := g.tag + 1) hb (by omega) hT' rfl hS _) ?_
    have back : ∀ {h : Law03Feed}, FL 0 { g with tag := g.tag + 1 } h → FL 1 f h := fun {h} hl => by
      obtain ⟨a1, a2, a3, a4, a5⟩ := hl
      exact ⟨a1, a2, by dsimp only at a3; omega, a4, by dsimp only at a5; omega⟩
    rintro (⟨_, _, _, _, _, _, _, _, _, _, _, _⟩ | ⟨_, _, _, _, _, _, _, _, _, _, _⟩ | ⟨_, _, _, _, _, _, _, _, _, _, _, _, _, _, _, _⟩ | ⟨_, _, _, _, _, _, _, _, _, _, _, _, _, _⟩) ⟨hw, hl⟩ <;> exact EuP.ret ⟨hw, back hl⟩
  · refine EuP.bd plain ?_
    rintro (⟨_, _, _, _, _, _, _, _, _, _, _, _⟩ | ⟨_, _, _, _, _, _, _, _, _, _, _⟩ | ⟨_, _, _, _, _, _, _, _, _, _, _, _, _, _, _, _⟩ | ⟨_, _, _, _, _, _, _, _, _, _, _, _, _, _⟩) ⟨hw, hl⟩ <;> exact EuP.ret ⟨hw, (hgl.trans hl).weak (by decide)⟩
  · refine EuP.bd plain ?_
    rintro (⟨_, _, _, _, _, _, _, _, _, _, _, _⟩ | ⟨_, _, _, _, _, _, _, _, _, _, _⟩ | ⟨_, _, _, _, _, _, _, _, _, _, _, _, _, _, _, _⟩ | ⟨_, _, _, _, _, _, _, _, _, _, _, _, _, _⟩) ⟨hw, hl⟩ <;> exact EuP.ret ⟨hw, (hgl.trans hl).weak (by decide)⟩
/-- Statements that are made. -/
theorem eu_made : ∀ (d m : Nat) (lp : Bool) (f : Law03Feed), d ≤ 100 → m ≤ 14 → FB f → EuP (fun n => S.law03_feed_stmts n (d : Int) (m : Int) lp f) (fun x => (x.1.length ≤ m ∧ ∀ s ∈ x.1, WS d s) ∧ FL 0 f x.2) := by
  intro d
  induction d with
  | zero =>
    intro m lp f _ hm hf
    exact loop 0 (fun h => absurd h (by decide)) m lp f hm hf
  | succ d ih =>
    intro m lp f hd hm hf
    refine loop (d + 1) (fun _ m' lp' g hm' hg => ?_) m lp f hm hf
    rw [show IntKind.wrap IntKind.i64 (((d + 1 : Nat) : Int) - 1) = (d : Int) by rw [wrap_id (by omega) (by omega)]; omega]
    exact (ih m' lp' g (by omega) hm' hg).mono fun x hx => ⟨⟨by have := hx.1.1; omega, fun s hs => ⟨d, rfl, hx.1.2 s hs⟩⟩, hx.2⟩
where
  loop (d : Nat) (hS : 0 < d → ∀ (m : Nat) (lp : Bool) (g : Law03Feed), m ≤ 14 → FB g → EuP (fun n => S.law03_feed_stmts n (IntKind.wrap IntKind.i64 ((d : Int) - 1)) (m : Int) lp g) (fun x => (x.1.length ≤ 14 ∧ ∀ s ∈ x.1, ∃ d', d = d' + 1 ∧ WS d' s) ∧ FL 0 g x.2))
      (m : Nat) (lp : Bool) (f : Law03Feed) (hm : m ≤ 14) (hf : FB f) : EuP (fun n => S.law03_feed_stmts n (d : Int) (m : Int) lp f) (fun x => (x.1.length ≤ m ∧ ∀ s ∈ x.1, WS d s) ∧ FL 0 f x.2) := by
    have main : ∀ (k i : Nat) (g : Law03Feed) (out : LS), i + k = m → FL 0 f g → out.length ≤ i → (∀ s ∈ out, WS d s) →
        EuP (fun n => S.law03_feed_stmts_l0 n (d : Int) (m : Int) lp (i : Int) g out) (fun x => (x.2.length ≤ m ∧ ∀ s ∈ x.2, WS d s) ∧ FL 0 f x.1) := by
      intro k
      induction k with
      | zero =>
        intro i g out hi hg ho hw
        exact EuP.succ (fun n => S.law03_feed_stmts_l0.eq_2 ..) (EuP.f (decide_eq_false (by omega)) (EuP.ret ⟨⟨by dsimp only; omega, hw⟩, hg⟩))
      | succ k ihk =>
        intro i g out hi hg ho hw
        have hgb := FL.fb hf hg
        have stop : EuP (fun n => (some (g, out) : Option (Law03Feed × LS))) (fun x => (x.2.length ≤ m ∧ ∀ s ∈ x.2, WS d s) ∧ FL 0 f x.1) := EuP.ret ⟨⟨by dsimp only; omega, hw⟩, hg⟩
        refine EuP.succ (fun n => S.law03_feed_stmts_l0.eq_2 ..) (EuP.t (decide_eq_true (by omega)) (EuP.c (fun h0 => EuP.t (inK_map' hgb.ok.len) (EuP.c (fun _ => ?_) (fun _ => stop))) (fun _ => stop)))
        have h0' : g.left > 0 := of_decide_eq_true h0
        have g1 := hgb.l1
        have g2 := hgb.t1
        have g3 := hgb.t0
        have ew : IntKind.wrap .i64 (g.left - 1) = g.left - 1 := wrap_id (by omega) (by omega)
        rw [ew]
        have hb' : FB { g with left := g.left - 1 } := ⟨⟨hgb.ok.at0, hgb.ok.at1, hgb.ok.len, hgb.ok.ints, hgb.ok.ints1, hgb.ok.intsN, hgb.ok.arrs, hgb.ok.arrs1, hgb.ok.arrsN⟩, by show 0 ≤ g.left - 1; omega, by show g.left - 1 ≤ 100; omega, g3, by show g.tag + (g.left - 1) ≤ 1000; omega⟩
        refine EuP.bd (eu_stmt (d := d) (lp := lp) hb' (by show g.tag + (g.left - 1) ≤ 999; omega) hS) ?_
        rintro ⟨s, h⟩ ⟨hs, hl⟩
        refine EuP.t (decide_eq_true ?_) ?_
        · rw [List.length_map, List.length_cons, List.length_nil]
          show out.length + (0 + 1) ≤ 4294967296
          omega
        · rw [wrap_s (show i < 4611686018427387904 by omega)]
          refine ihk (i + 1) h (out ++ [s]) (by omega) ?_ (by simp; omega) ?_
          · obtain ⟨a1, a2, a3, a4, a5⟩ := hl
            obtain ⟨b1, b2, b3, b4, b5⟩ := hg
            exact ⟨a1, a2, by dsimp only at a3; omega, a4, by dsimp only at a5; omega⟩
          · intro x hx
            rcases List.mem_append.1 hx with hx | hx
            · exact hw x hx
            · simp at hx; subst hx; exact hs
    refine EuP.succ (fun n => S.law03_feed_stmts.eq_2 ..) (EuP.bd (main m 0 f [] (by omega) ⟨hf.ok, hf.l0, by omega, hf.t0, by omega⟩ (by simp) (fun s h => by simp at h)) ?_)
    rintro ⟨g, l⟩ ⟨h1, h2⟩
    exact EuP.ret ⟨h1, h2⟩
end Go.Im
