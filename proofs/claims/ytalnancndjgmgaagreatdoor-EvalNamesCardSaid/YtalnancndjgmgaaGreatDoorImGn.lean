/- The ideal machine: what printed contracts lean on. -/
import Derived.Test.YtalnancndjgmgaaGreatDoorMm0
namespace Go.Im
set_option linter.unusedVariables false
theorem SimC.less {P : Program} {c : Code} {T : List V} {H : Heap} {ex : Ex} {T1 T2 : List V} {H1 : Heap} (h : SimC P c T H ex T1 H1) (hl : T1.length = T2.length) (hs : ∀ (j : Nat) (v : V), T2[j]? = some v → ∃ v1, T1[j]? = some v1 ∧ Says v1 v) : SimC P c T H ex T2 H1 := by
  obtain ⟨c1, l1, w1⟩ := h
  refine ⟨c1, l1, fun X w a Q hr hq => w1 X w a Q hr fun X' w' a' hr' hs' => hq X' w' a' ⟨⟨by rw [← hl]; exact hr'.sr.len, fun t v ht => ?_⟩, hr'.rel, hr'.dom, hr'.defers⟩ hs'⟩
  obtain ⟨v1, hv1, hvs⟩ := hs t v ht
  obtain ⟨y, hy, hvy⟩ := hr'.sr.at_ t v1 hv1
  exact ⟨y, hy, hvs _ _ _ _ hvy⟩
mutual
/-- A list that is nil, as it is. -/
def ung (j : Nat) : V → V
  | .osl d i => match d with
    | true => .osl true i
    | false => match Nat.beq i j with
      | true => .nils
      | false => .osl false i
  | .agg cs => .agg (ungL j cs)
  | .tup cs => .tup (ungL j cs)
  | v => v
def ungL (j : Nat) : List V → List V
  | [] => []
  | v :: vs => ung j v :: ungL j vs
end
def ungB (j : Nat) (b : Blk) : Blk := { b with es := (match b.sym with | true => b.es | false => ungL j b.es) }
def ungH (j : Nat) (H : Heap) : Heap := H.map (·.map (ungB j))
theorem ungL_len (j : Nat) : ∀ vs : List V, (ungL j vs).length = vs.length
  | [] => rfl
  | v :: vs => by simp [ungL, ungL_len j vs]
theorem ungL_get {j : Nat} : ∀ {vs : List V} {k : Nat} {v : V}, vs[k]? = some v → (ungL j vs)[k]? = some (ung j v)
  | [], k, v, h => by simp at h
  | u :: vs, 0, v, h => by simp at h; subst h; simp [ungL]
  | u :: vs, k + 1, v, h => by simpa [ungL] using ungL_get (vs := vs) (k := k) (by simpa using h)
theorem ung_cells (j : Nat) (v : V) : (ung j v).cells = ungL j v.cells := by
  cases v with
  | osl d i => cases d <;> simp only [ung, V.cells, ungL]; cases Nat.beq i j <;> rfl
  | _ => simp [ung, V.cells, ungL]
section
variable {hp : Array Obj} {own : Nat → Prop} {ρ : Rho} {j : Nat}
mutual
theorem ung_vr (hj : ρ.n j = some (.slice none 0 0)) : ∀ (v : V) (x : Value), VR hp own ρ (ung j v) x → VR hp own ρ v x
  | .osl true i, x, h => by simpa only [ung] using h
  | .osl false i, x, h => by
    simp only [ung] at h
    cases hb : Nat.beq i j with
    | false => rw [hb] at h; exact h
    | true =>
      rw [hb] at h
      have := Nat.eq_of_beq_eq_true hb
      subst this
      rw [vr_nils h]
      exact .osl _ 0 0 none hj
  | .agg cs, x, h => by
    simp only [ung] at h
    obtain ⟨xs, rfl, hl, hr⟩ := vr_agg h
    rw [ungL_len] at hl
    exact .agg _ xs hl fun k u y hk hy => ungL_vr hj cs k u y hk (hr k _ y (ungL_get hk) hy)
  | .tup cs, x, h => by
    simp only [ung] at h
    obtain ⟨xs, rfl, hl, hr⟩ := vr_tup h
    rw [ungL_len] at hl
    exact .tup _ xs hl fun k u y hk hy => ungL_vr hj cs k u y hk (hr k _ y (ungL_get hk) hy)
  | .any, x, h => by simpa only [ung] using h
  | .opq, x, h => by simpa only [ung] using h
  | .bool _ _, x, h => by simpa only [ung] using h
  | .int _ _ _, x, h => by simpa only [ung] using h
  | .str _ _, x, h => by simpa only [ung] using h
  | .nilp, x, h => by simpa only [ung] using h
  | .nils, x, h => by simpa only [ung] using h
  | .nilf, x, h => by simpa only [ung] using h
  | .nili, x, h => by simpa only [ung] using h
  | .iptr _ _, x, h => by simpa only [ung] using h
  | .isl _ _, x, h => by simpa only [ung] using h
  | .mptr _ _ _, x, h => by simpa only [ung] using h
  | .msl _ _ _, x, h => by simpa only [ung] using h
  | .fn _ _ _, x, h => by simpa only [ung] using h
  | .ifc _ _, x, h => by simpa only [ung] using h
theorem ungL_vr (hj : ρ.n j = some (.slice none 0 0)) : ∀ (cs : List V) (k : Nat) (u : V) (y : Value), cs[k]? = some u → VR hp own ρ (ung j u) y → VR hp own ρ u y
  | [], k, u, y, hk, _ => by simp at hk
  | c :: cs, 0, u, y, hk, h => by simp at hk; subst hk; exact ung_vr hj c y h
  | c :: cs, k + 1, u, y, hk, h => ungL_vr hj cs k u y (by simpa using hk) h
end
end
theorem lookH_ung (j : Nat) (H : Heap) (id : Nat) : lookH (ungH j H) id = (lookH H id).map (ungB j) := by
  simp only [lookH, ungH, List.getElem?_map]
  cases H[id]? with
  | none => rfl
  | some o => cases o <;> rfl
theorem ung_row {X : Cr} {w : World} {B : Blk} {c : Array Value} {s j : Nat} (hj : X.ρ.n j = some (.slice none 0 0)) (h : Row X w (ungB j B) c s) : Row X w B c s := by
  intro k e hk
  cases hs : B.sym with
  | true =>
    have hB : ungB j B = B := by cases B; simp only at hs; subst hs; rfl
    rw [hB] at h
    exact ⟨(h k e hk).1, fun i v hi => by obtain ⟨x, hx, hv, hq⟩ := (h k e hk).2 i v hi; exact ⟨x, hx, hv, fun _ => hq hs⟩⟩
  | false =>
    have hes : (ungB j B).es = ungL j B.es := by unfold ungB; rw [hs]
    obtain ⟨h1, h2⟩ := h k (ung j e) (by rw [hes]; exact ungL_get hk)
    rw [ung_cells, ungL_len] at h1
    refine ⟨h1, fun i v hi => ?_⟩
    obtain ⟨x, hx, hv, _⟩ := h2 i (ung j v) (by rw [ung_cells]; exact ungL_get hi)
    exact ⟨x, hx, ung_vr hj v x hv, fun h => by cases h⟩
theorem ungB_len (j : Nat) (B : Blk) : (ungB j B).es.length = B.es.length := by
  unfold ungB
  cases B.sym with
  | true => rfl
  | false => exact ungL_len j _
theorem ung_step {X : Cr} {w : World} {H : Heap} {j : Nat} {B : Blk} (hj : X.ρ.n j = some (.slice none 0 0)) (hl : RelL X w (lookH (ungH j H ++ [some B]))) : Step X w (lookH (ungH j H ++ [some B])) X w (lookH (H ++ [some B])) := by
  have conv : ∀ id B', lookH (H ++ [some B]) id = some B' → (lookH (ungH j H ++ [some B]) id = some B') ∨ (lookH (ungH j H ++ [some B]) id = some (ungB j B')) := fun id B' h => by
    by_cases hid : id < H.length
    · right
      have e1 : (H ++ [some B])[id]? = H[id]? := List.getElem?_append_left hid
      have e2 : (ungH j H ++ [some B])[id]? = (ungH j H)[id]? := List.getElem?_append_left (by simpa [ungH] using hid)
      have h1 : lookH H id = some B' := by unfold lookH at h ⊢; rw [e1] at h; exact h
      have h2 := lookH_ung j H id
      rw [h1] at h2
      unfold lookH at h2 ⊢
      rw [e2]; exact h2
    · left
      have e1 : (H ++ [some B])[id]? = [some B][id - H.length]? := List.getElem?_append_right (by omega)
      have e2 : (ungH j H ++ [some B])[id]? = [some B][id - H.length]? := by rw [List.getElem?_append_right (by simp [ungH]; omega)]; simp [ungH]
      unfold lookH at h ⊢
      rw [e1] at h; rw [e2]; exact h
  have convE : ∀ id B', lookH (H ++ [some B]) id = some B' → ∃ B2, lookH (ungH j H ++ [some B]) id = some B2 := fun id B' h => (conv id B' h).elim (fun h => ⟨_, h⟩) fun h => ⟨_, h⟩
  refine { toExt := (Step.refl hl).toExt, rel := ⟨fun id B' hB' => ?_, fun i k Bi Bk p q hi hk hp hq hpq => ?_, hl.lt, hl.gl⟩, nl := fun b ⟨i, B', s, z, hi, hρ⟩ => ?_ }
  · rcases conv id B' hB' with h | h
    · exact hl.blk id B' h
    · rcases hl.blk id _ h with ⟨g1, g2, g3, g4, g5⟩ | ⟨b, s, c, e, hρ, ho, hb, hrow, hty, hls⟩
      · exact .inl ⟨g1, List.eq_nil_of_length_eq_zero (by rw [← ungB_len j, g2]; rfl), g3, g4, g5⟩
      · refine .inr ⟨b, s, c, e, hρ, ho, hb, ung_row hj hrow, hty, fun hl' => ?_⟩
        obtain ⟨⟨cap, q1, q2, q3, q4⟩, q5⟩ := hls hl'
        exact ⟨⟨cap, by rw [← ungB_len j]; exact q1, q2, by rw [← ungB_len j]; exact q3, q4⟩, q5⟩
  · obtain ⟨Bi', hi'⟩ := convE i Bi hi
    obtain ⟨Bk', hk'⟩ := convE k Bk hk
    exact hl.inj i k Bi' Bk' p q hi' hk' hp hq hpq
  · obtain ⟨B2, hB2⟩ := convE i B' hi
    exact .inr ⟨i, B2, s, z, hB2, hρ⟩
def isGh : Heap → Bool
  | [] => false
  | [b] => match b with
    | some b => b.lst && b.es.isEmpty && b.ty.isNone
    | none => false
  | _ :: b :: H => isGh (b :: H)
theorem isGh_spec : ∀ {H : Heap}, isGh H = true → ∃ H0 B, H = H0 ++ [some B] ∧ B.lst = true ∧ B.es = [] ∧ B.ty = none
  | [], h => by cases h
  | [none], h => by cases h
  | [some b], h => by
    simp only [isGh, Bool.and_eq_true, List.isEmpty_iff, Option.isNone_iff_eq_none] at h
    exact ⟨[], b, rfl, h.1.1, h.1.2, h.2⟩
  | a :: b :: H, h => by
    obtain ⟨H0, B, h1, h2⟩ := isGh_spec (H := b :: H) h
    exact ⟨a :: H0, B, by rw [h1]; rfl, h2⟩
/-- A list that is nil may be told to be the call's own: its block is the last one. -/
theorem SimC.gh {P : Program} {c : Code} {T : List V} {H : Heap} {ex : Ex} {T' : List V} {H' : Heap} (h : SimC P c T H ex T' H') (hg : isGh H = true) (hc : cleanOf H' = true) :
    SimC P c (ungL (H.length - 1) T) (ungH (H.length - 1) H.dropLast) ex T' H' := by
  obtain ⟨H0, B, rfl, h1, h2, h3⟩ := isGh_spec hg
  obtain ⟨_, l1, w1⟩ := h
  have hn : (H0 ++ [some B]).length - 1 = H0.length := by simp
  rw [hn, List.dropLast_concat]
  have hul : (ungH H0.length H0).length = H0.length := by simp [ungH]
  refine ⟨clean_of hc, by rw [hul]; simp at l1; omega, fun X w a Q hr hq => ?_⟩
  have hno := hr.dom H0.length (by rw [hul]; exact Nat.le_refl _)
  have hg := ghost_step hr.rel hno (B := B) h1 h2 h3
  have hlk : (fun i => if i = H0.length then some B else lookH (ungH H0.length H0) i) = lookH (ungH H0.length H0 ++ [some B]) := by
    rw [lookH_new, newL_one, hul]
  rw [hlk] at hg
  have hj : (⟨X.own, ⟨X.ρ.r, fun i => if i = H0.length then some (.slice none 0 0) else X.ρ.n i⟩⟩ : Cr).ρ.n H0.length = some (.slice none 0 0) := by simp
  have hu := ung_step hj hg.rel
  refine w1 _ w a Q ⟨⟨by rw [← ungL_len H0.length]; exact hr.sr.len, fun t v ht => ?_⟩, hu.rel, fun id hid => ?_, hr.defers⟩ fun X' w' a' hr' hs' => hq X' w' a' hr' (Step.trans hr.rel (Step.trans hr.rel hg hu) hs')
  · obtain ⟨x, hx, hv⟩ := hr.sr.at_ t _ (ungL_get ht)
    exact ⟨x, hx, ung_vr hj v x (hv.ext hg.toExt)⟩
  · have hid' : H0.length + 1 ≤ id := by simpa using hid
    have := hr.dom id (by rw [hul]; omega)
    refine ⟨this.1, ?_⟩
    show (if id = H0.length then _ else _) = none
    rw [if_neg (by omega)]
    exact this.2
theorem SimR.gh {P : Program} {c : Code} {T : List V} {H : Heap} {ex : Ex} {T' : List V} {H' : Heap} (h : SimR P c T H ex T' H') (hg : isGh H = true) (hc : cleanOf H' = true) :
    SimR P c (ungL (H.length - 1) T) (ungH (H.length - 1) H.dropLast) ex T' H' := by
  obtain ⟨H0, B, rfl, h1, h2, h3⟩ := isGh_spec hg
  obtain ⟨_, l1, k, w1⟩ := h
  have hn : (H0 ++ [some B]).length - 1 = H0.length := by simp
  rw [hn, List.dropLast_concat]
  have hul : (ungH H0.length H0).length = H0.length := by simp [ungH]
  refine ⟨clean_of hc, by rw [hul]; simp at l1; omega, k, fun X w a Q hr hq => ?_⟩
  have hno := hr.dom H0.length (by rw [hul]; exact Nat.le_refl _)
  have hg := ghost_step hr.rel hno (B := B) h1 h2 h3
  have hlk : (fun i => if i = H0.length then some B else lookH (ungH H0.length H0) i) = lookH (ungH H0.length H0 ++ [some B]) := by
    rw [lookH_new, newL_one, hul]
  rw [hlk] at hg
  have hj : (⟨X.own, ⟨X.ρ.r, fun i => if i = H0.length then some (.slice none 0 0) else X.ρ.n i⟩⟩ : Cr).ρ.n H0.length = some (.slice none 0 0) := by simp
  have hu := ung_step hj hg.rel
  refine w1 _ w a Q ⟨⟨by rw [← ungL_len H0.length]; exact hr.sr.len, fun t v ht => ?_⟩, hu.rel, fun id hid => ?_, hr.defers⟩ fun X' w' a' hr' hs' => hq X' w' a' hr' (Step.trans hr.rel (Step.trans hr.rel hg hu) hs')
  · obtain ⟨x, hx, hv⟩ := hr.sr.at_ t _ (ungL_get ht)
    exact ⟨x, hx, ung_vr hj v x (hv.ext hg.toExt)⟩
  · have hid' : H0.length + 1 ≤ id := by simpa using hid
    have := hr.dom id (by rw [hul]; omega)
    refine ⟨this.1, ?_⟩
    show (if id = H0.length then _ else _) = none
    rw [if_neg (by omega)]
    exact this.2
theorem SimR.at2 {P : Program} {c : Code} {T : List V} {H : Heap} {ex : Ex} {T' : List V} {H' : Heap} (h : SimR P c (symDL T) (fixH H) ex T' H') (hc : cleanOf H' = true) : SimR P c T H ex T' H' := by
  obtain ⟨_, h2, k, h3⟩ := h
  refine ⟨clean_of hc, by rw [← fixH_len]; exact h2, k, fun X w a Q hr hq => ?_⟩
  have hf := fix_step hr.rel
  exact h3 X w a Q ⟨sr_symDL hr.sr, hf.rel, fun id hid => hr.dom id (by rw [← fixH_len]; exact hid), hr.defers⟩ fun X' w' a' hr' hs' => hq X' w' a' hr' (Step.trans hr.rel hf hs')
/-- The library's functions that tell whatever they are told. -/
def basS : Orc :=
  basOr basHasPrefix <|
  basOr basFormatInt <|
  basOr basItoa <|
  basNo
theorem basS_ok : OrcOk Go.Proofs.Tryz.prog basS :=
  basOr_ok basHasPrefix_ok <|
  basOr_ok basFormatInt_ok <|
  basOr_ok basItoa_ok <|
  basNo_ok
def lvT {α : Type} (f : α → V) (l : List α) : V := .isl true (l.map f)
def bs (l : List UInt8) : ByteArray := ⟨l.toArray⟩
def B0 (es : List V) (sz : Nat) (ty lty : Option TypeId) : Blk := { es, sz, dirty := true, ty, lty }
def BL (es : List V) (sz lty : Nat) : Blk := { es, sz, sym := true, dirty := true, lst := true, lty := some lty }
def cxG (imm mus gro frz : List Nat) : Cx := { imm, mus, gro, frz }
/-- What of a value is kept. -/
inductive Mk where
  | k | a | o | l (ms : List Mk)
/-- One cell, whatever it holds. -/
def opqV : V → V
  | .fn _ _ _ => .opq
  | .nilf => .opq
  | .nili => .opq
  | .nilp => .opq
  | .opq => .opq
  | _ => .any
mutual
def maskV : Mk → V → V
  | .k, v => v
  | .a, _ => .any
  | .o, v => opqV v
  | .l ms, .agg cs => .agg (maskL ms cs)
  | .l ms, .tup cs => .tup (maskL ms cs)
  | .l _, v => v
def maskL : List Mk → List V → List V
  | m :: ms, c :: cs => maskV m c :: maskL ms cs
  | _, cs => cs
end
theorem Says.any (v : V) : Says v .any := fun _ _ _ _ _ => .imm _ _ (.any _)
theorem opqV_says (v : V) : Says v (opqV v) := by
  cases v <;> simp only [opqV] <;> first
    | exact Says.any _
    | exact Says.refl _
    | exact fun _ _ _ _ h => .imm _ _ (.opq _ (vr_one h rfl))
mutual
theorem maskV_says : ∀ (m : Mk) (v : V), Says v (maskV m v)
  | .k, v => by simp only [maskV]; exact Says.refl v
  | .a, v => by simp only [maskV]; exact Says.any v
  | .o, v => by simp only [maskV]; exact opqV_says v
  | .l ms, v => by
    cases v <;> simp only [maskV] <;> first
      | exact Says.agg (maskL_says ms _)
      | exact Says.tup (maskL_says ms _)
      | exact Says.refl _
theorem maskL_says : ∀ (ms : List Mk) (cs : List V), SaysL cs (maskL ms cs)
  | [], cs => by simp only [maskL]; exact saysL_refl cs
  | m :: ms, [] => by simp only [maskL]; exact .nil
  | m :: ms, c :: cs => by simp only [maskL]; exact .cons (maskV_says m c) (maskL_says ms cs)
theorem saysL_refl : ∀ cs : List V, SaysL cs cs
  | [] => .nil
  | c :: cs => .cons (Says.refl c) (saysL_refl cs)
end
/-- A contract of a function, of a loop's rounds, of a piece of code: every block at its end is called changed. -/
def SimD (f : FuncId) (args : List V) (H : Heap) (v : V) (H' : Heap) : Prop := Sim Go.Proofs.Tryz.prog f args H v H' ∧ cleanOf H' = true
def LoopD (c : Code) (T : List V) (H : Heap) (ex : Ex) (T' : List V) (H' : Heap) : Prop := SimR Go.Proofs.Tryz.prog c T H ex T' H' ∧ cleanOf H' = true
def CodeD (c : Code) (T : List V) (H : Heap) (ex : Ex) (T' : List V) (H' : Heap) : Prop := SimC Go.Proofs.Tryz.prog c T H ex T' H' ∧ cleanOf H' = true
noncomputable def envD (cx : Cx) : Env := { P := Go.Proofs.Tryz.prog, cx, call := conCall Go.Proofs.Tryz.prog imA 300 memT basS, sim := fun f a H v H' => SimD f (symDL a) (fixH H) v H', loop := fun c T H ex T' H' => LoopD c (symDL T) (fixH H) ex T' H', code := fun c T H ex T' H' => CodeD c (symDL T) (fixH H) ex T' H' }
theorem envD_ok (cx : Cx) : EnvOk (envD cx) :=
  ⟨hmixed, fun _ _ _ _ _ h => conCall_ok hmixed memT_ok basS_ok h, fun _ _ _ _ _ h => Sim.at2 h.1 h.2, fun _ _ _ _ _ _ h => SimR.at2 h.1 h.2, fun _ _ _ _ _ _ h => SimC.at2 h.1 h.2⟩
theorem LoopD.gh {c : Code} {T : List V} {H : Heap} {ex : Ex} {T' : List V} {H' : Heap} (h : LoopD c T H ex T' H') (hg : isGh H = true) : LoopD c (ungL (H.length - 1) T) (ungH (H.length - 1) H.dropLast) ex T' H' := ⟨h.1.gh hg h.2, h.2⟩
theorem CodeD.gh {c : Code} {T : List V} {H : Heap} {ex : Ex} {T' : List V} {H' : Heap} (h : CodeD c T H ex T' H') (hg : isGh H = true) : CodeD c (ungL (H.length - 1) T) (ungH (H.length - 1) H.dropLast) ex T' H' := ⟨h.1.gh hg h.2, h.2⟩
theorem CodeD.cast {c : Code} {T T0 : List V} {H H0 : Heap} {ex : Ex} {T' : List V} {H' : Heap} (h : CodeD c T0 H0 ex T' H') (ht : T0 = T) (hh : H0 = H) : CodeD c T H ex T' H' := by subst ht hh; exact h
theorem LoopD.cast {c : Code} {T T0 : List V} {H H0 : Heap} {ex : Ex} {T' : List V} {H' : Heap} (h : LoopD c T0 H0 ex T' H') (ht : T0 = T) (hh : H0 = H) : LoopD c T H ex T' H' := by subst ht hh; exact h
theorem SimD.cast {f : FuncId} {a a0 : List V} {H H0 : Heap} {v : V} {H' : Heap} (h : SimD f a0 H0 v H') (ha : a0 = a) (hh : H0 = H) : SimD f a H v H' := by subst ha hh; exact h
theorem SimD.castO {f : FuncId} {a : List V} {H : Heap} {v v0 : V} {H' H0 : Heap} (h : SimD f a H v0 H0) (ha : v0 = v) (hh : H0 = H') : SimD f a H v H' := by subst ha hh; exact h
theorem LoopD.castO {c : Code} {T T0 : List V} {H H0 : Heap} {ex : Ex} {T' : List V} {H' : Heap} (h : LoopD c T H ex T0 H0) (ht : T0 = T') (hh : H0 = H') : LoopD c T H ex T' H' := by subst ht hh; exact h
theorem CodeD.castO {c : Code} {T T0 : List V} {H H0 : Heap} {ex : Ex} {T' : List V} {H' : Heap} (h : CodeD c T H ex T0 H0) (ht : T0 = T') (hh : H0 = H') : CodeD c T H ex T' H' := by subst ht hh; exact h
theorem SimD.sim {f : FuncId} {args : List V} {H : Heap} {v : V} {H' : Heap} (h : Sim Go.Proofs.Tryz.prog f args H v H') (hc : cleanOf H' = true) : SimD f args H v H' := ⟨h, hc⟩
/-- A function's run along a way; its end of one shape. -/
noncomputable def runL (cx : Cx) (f : FuncId) (args : List V) (H : Heap) (ps : List Ev) (q : List Nat) (m : Mk) : Option (Prop × V × Heap) :=
  match run (envD cx) f args H ps with
  | some (ob, v, H') => match nodupB q with
    | true => some (ob, maskV m (symD (ren (labF H.length q) v)), fixH (labH H.length q H'))
    | false => none
  | none => none
theorem leafF (cx : Cx) {f : FuncId} {args : List V} {H : Heap} {v : V} {H' : Heap} {A : Prop} (ps : List Ev) (q : List Nat) (m : Mk) (ho : A) (hk : runL cx f args H ps q m = some (A, v, H')) : SimD f args H v H' := by
  unfold runL at hk
  split at hk
  · rename_i ob v0 H0 hr
    split at hk
    · rename_i hq
      cases hk
      exact ⟨(Sim.lab q hq (sim_run (envD_ok cx) hr ho)).says (maskV_says m _), cleanOf_fix _⟩
    · cases hk
  · cases hk
/-- The k-th piece behind a semicolon. -/
def seqsIn : Code → List Code
  | .seq a b => b :: (seqsIn a ++ seqsIn b)
  | .cond _ a b => seqsIn a ++ seqsIn b
  | .block _ c => seqsIn c
  | .loop c => seqsIn c
  | _ => []
def pieceOf (P : Program) (f : FuncId) (k : Nat) : Code := match P.funcs[f]? with
  | some fn => match fn.body with
    | some c => (seqsIn c).getD k .skip
    | none => .skip
  | none => .skip
theorem exec_env {cx : Cx} {c : Code} {T : List V} {H : Heap} {ps : List Ev} {ex : Ex} {T' : List V} {H' : Heap} {ob : Prop} (h : exec (envD cx) 1000 c ⟨T, H, ps, True⟩ = some (ex, ⟨T', H', [], ob⟩)) (ho : ob) (slots : List Nat) :
    SimC Go.Proofs.Tryz.prog c T H ex (tabV T'.length (onlyV T' slots)) H' := by
  obtain ⟨_, h2⟩ := (exec_ok (envD_ok cx) 1000).1 c _ _ _ h
  exact SimC.less (h2 ho) (by simp [tabV]) fun j v hj => tab_says hj
/-- A piece of code, run along a way; its end of one shape: these slots alone. -/
noncomputable def runE (cx : Cx) (c : Code) (T : List V) (H : Heap) (ps : List Ev) (q slots : List Nat) : Option (Prop × Ex × List V × Heap) :=
  match exec (envD cx) 1000 c ⟨T, H, ps, True⟩ with
  | some (ex, ⟨T', H', [], ob⟩) => match nodupB q with
    | true => some (ob, ex, symDL (renL (labF H.length q) (tabV T'.length (onlyV T' slots))), fixH (labH H.length q H'))
    | false => none
  | _ => none
theorem leafC (cx : Cx) {c : Code} {T : List V} {H : Heap} {ex : Ex} {T' : List V} {H' : Heap} {A : Prop} (ps : List Ev) (q slots : List Nat) (ho : A) (hk : runE cx c T H ps q slots = some (A, ex, T', H')) : CodeD c T H ex T' H' := by
  unfold runE at hk
  split at hk
  · rename_i ex0 T0 H0 ob hr
    split at hk
    · rename_i hq
      cases hk
      exact ⟨SimC.lab q hq (exec_env hr ho slots), cleanOf_fix _⟩
    · cases hk
  · cases hk
def exN : Ex → Bool
  | .normal => true
  | _ => false
theorem leafR (cx : Cx) {c : Code} {T : List V} {H : Heap} {ex : Ex} {T' : List V} {H' : Heap} {A : Prop} (ps : List Ev) (q slots : List Nat) (ho : A) (hk : runE cx c T H ps q slots = some (A, ex, T', H')) (hx : exN ex = false) : LoopD c T H ex T' H' :=
  have h := leafC cx ps q slots ho hk
  ⟨SimR.last h.1 (by rintro rfl; cases hx), h.2⟩
/-- A round that goes on. -/
noncomputable def runN (cx : Cx) (c : Code) (T : List V) (H : Heap) (ps : List Ev) (m slots : List Nat) : Option (Prop × List V × Heap) :=
  match exec (envD cx) 1000 c ⟨T, H, ps, True⟩ with
  | some (.normal, ⟨T', H', [], ob⟩) => match nodupB m && Nat.beq m.length H.length with
    | true => some (ob, symDL (renL (indexOf m) (tabV T'.length (onlyV T' slots))), fixH (kanH (lookH H') m))
    | false => none
  | _ => none
theorem leafN (cx : Cx) {c : Code} {T : List V} {H : Heap} {ex : Ex} {T1 : List V} {H1 : Heap} {T' : List V} {H' : Heap} {A : Prop} (ps : List Ev) (m slots : List Nat) (ho : A) (k : LoopD c T1 H1 ex T' H')
    (hs : (stayB m 0 H' && okVs (stayF m) T') = true) (hk : runN cx c T H ps m slots = some (A, T1, H1)) : LoopD c T H ex T' H' := by
  unfold runN at hk
  split at hk
  · rename_i T0 H0 ob hr
    split at hk
    · rename_i hm
      cases hk
      rw [Bool.and_eq_true] at hm hs
      exact ⟨SimR.stepK (exec_env hr ho slots) hm.1 (Nat.eq_of_beq_eq_true hm.2) (SimR.at2 k.1 k.2) k.2 hs.1 hs.2, k.2⟩
    · cases hk
  · cases hk
def bV (c : UInt8) : V := .int true .u8 (c.toNat : Int)
/-- An element that may be appended. -/
noncomputable def okE (t : TypeId) (e : V) : Bool := (e.cells.length == Go.Proofs.Tryz.prog.cellsOf t && e.cells.all V.one) && e.pure
noncomputable def okL (t : TypeId) (es : List V) : Bool := es.all (okE t)
theorem okM {α : Type} {f : α → V} {t : TypeId} (h : ∀ x, okE t (f x) = true) (l : List α) : okL t (l.map f) = true := by
  unfold okL
  rw [List.all_map, List.all_eq_true]
  exact fun x _ => h x
theorem okAp {t : TypeId} {a b : List V} (ha : okL t a = true) (hb : okL t b = true) : okL t (a ++ b) = true := by
  unfold okL at ha hb ⊢
  rw [List.all_append, ha, hb]; rfl
theorem okL_el {t : TypeId} {es : List V} (h : okL t es = true) : okElems Go.Proofs.Tryz.prog t es = true ∧ pureL es = true := by
  unfold okL at h
  rw [List.all_eq_true] at h
  refine ⟨List.all_eq_true.2 fun e he => ?_, ?_⟩
  · have := h e he
    unfold okE at this
    rw [Bool.and_eq_true] at this
    exact this.1
  · induction es with
    | nil => rfl
    | cons e es ih =>
      have h1 := h e List.mem_cons_self
      unfold okE at h1
      rw [Bool.and_eq_true] at h1
      simp only [pureL, h1.2, ih (fun x hx => h x (List.mem_cons_of_mem _ hx)), Bool.and_self]
theorem apO {t : TypeId} {xs ys : List V} (hx : okL t xs = true) (hy : okL t ys = true) (h : decide (xs.length + ys.length ≤ maxApp) = true) :
    (okElems Go.Proofs.Tryz.prog t xs && okElems Go.Proofs.Tryz.prog t ys && decide (xs.length + ys.length ≤ maxApp) && (!true || (pureL xs && pureL ys))) = true := by
  rw [(okL_el hx).1, (okL_el hy).1, h, (okL_el hx).2, (okL_el hy).2]; rfl
theorem apN {t : TypeId} {n : Nat} {ys : List V} (hy : okL t ys = true) (h : decide (n + ys.length ≤ maxApp) = true) : (okElems Go.Proofs.Tryz.prog t ys && decide (n + ys.length ≤ maxApp)) = true := by
  rw [(okL_el hy).1, h]; rfl
theorem usB {l : List UInt8} (a : Prop) [Decidable a] (h : decide a = true) : (decide a && (l.map bV).all isByte) = true := by
  rw [h, Bool.true_and, List.all_map, List.all_eq_true]
  exact fun _ _ => rfl
theorem slC {t : TypeId} {xs : List V} (hx : okL t xs = true) {n : Nat} (hn : Go.Proofs.Tryz.prog.cellsOf t = n) : ∀ e ∈ xs, e.cells.length = n := fun e he => by
  have h1 := List.all_eq_true.1 hx e he
  simp only [okE, Bool.and_eq_true, beq_iff_eq] at h1
  rw [← hn]; exact h1.1.1
/- short names for printed proofs -/
theorem cs {α : Type} {c : Bool} {a b : Option α} {r : α} {G : Prop} (h : (bif c then a else b) = some r) (f : c = true → a = some r → G) (g : c = false → b = some r → G) : G := by
  cases c with
  | true => exact f rfl h
  | false => exact g rfl h
theorem gt {α : Type} {c : Bool} {a : Option α} {r : α} {G : Prop} (h : (bif c then a else none) = some r) (f : c = true → a = some r → G) : G := cs h f fun _ h => by cases h
theorem gf {α : Type} {c : Bool} {a : Option α} {r : α} {G : Prop} (h : (bif c then none else a) = some r) (f : c = false → a = some r → G) : G := cs h (fun _ h => by cases h) f
theorem bd {α β : Type} {o : Option α} {f : α → Option β} {r : β} {G : Prop} (h : o.bind f = some r) (g : ∀ x, o = some x → f x = some r → G) : G := by
  obtain ⟨x, h1, h2⟩ := Option.bind_eq_some_iff.1 h
  exact g x h1 h2
theorem an {a b : Prop} (x : a) (y : b) : a ∧ b := ⟨x, y⟩
theorem lf {α : Type} {a r : α} {G : α → Prop} (h : some a = some r) (g : G a) : G r := by cases h; exact g
theorem elB {α : Type} {f : α → V} {xs : List V} {l : List α} {i : Nat} {x : α} {e : V} (hm : xs = l.map f) (h : l[i]? = some x) (he : f x = e) : xs[i]? = some e := by rw [hm]; exact el_map h he
theorem elA {α : Type} {f : α → V} {l : List α} {i : Nat} {x : α} {e : V} (h : l[i]? = some x) (he : f x = e) : (l.map f)[i]? = some e := el_map h he
theorem neF {α : Type} [BEq α] [LawfulBEq α] {x a b : α} (h : (x == a) = true) (hab : (a == b) = false) : (x == b) = false := by
  rw [eq_of_beq h]; exact hab
theorem sm {α β : Type} (f : α → β) (l : List α) (x : α) (y : β) (h : f x = y) : l.map f ++ [y] = (l ++ [x]).map f := by rw [← h, List.map_append]; rfl
theorem E.value_D {b : ByteArray} {n : Int} {r : Int × Bool} (h : E.value b n = some r) : SimD 112 [.str true b, .int true .u64 n] [] (.tup [.int true .u64 ((Prod.fst r)), .bool true ((Prod.snd r))]) [] := ⟨E.value_sim h _ _ _ _, rfl⟩
theorem E.IndexByte_D {b : ByteArray} {c r : Int} (h : E.IndexByte b c = some r) : SimD 104 [.str true b, .int true .u8 c] [] (.int true .i64 r) [] := ⟨E.IndexByte_sim h _ _ _, rfl⟩
end Go.Im
