/- The ideal machine: an operation hangs on what it looks at alone. -/
import Derived.Test.YtalnancndjgmgaaGreatDoorImOp
namespace Go.Im
set_option linter.unusedVariables false
set_option linter.unusedSimpArgs false
theorem opLoad_local {P : Program} {l l' : Look} {t : TypeId} {p : V} {ps : List Ev} {ob : Prop} {r : Out} (h : opLoad P l t p ps ob = some r) (hl : ∀ id ∈ r.fp, l' id = l id) : opLoad P l' t p ps ob = some r := by
  unfold opLoad at h ⊢
  split at h
  · exact h
  · rename_i id i off
    split at h
    · rename_i B hB
      split at h
      · rename_i e ps' ob' he
        split at h
        · rename_i v hv
          cases h
          rw [hl id (by simp), hB]
          simp [he, hv]
        · cases h
      · cases h
    · cases h
  · cases h
theorem opStore_local {P : Program} {l l' : Look} {t : TypeId} {p v : V} {ps : List Ev} {ob : Prop} {r : Out} (h : opStore P l t p v ps ob = some r) (hl : ∀ id ∈ r.fp, l' id = l id) : opStore P l' t p v ps ob = some r := by
  unfold opStore at h ⊢
  split at h
  · rename_i id i off
    split at h
    · rename_i hc
      split at h
      · rename_i B hB
        split at h
        · cases h
        · rename_i hsym
          split at h
          · rename_i e he
            split at h
            · rename_i e' he'
              cases h
              simp only [hl id (by simp), hB]
              rw [if_pos hc, if_neg hsym]
              simp [he, he']
            · cases h
          · cases h
      · cases h
    · cases h
  · cases h
theorem lstOf_local {l l' : Look} {id : Nat} (h : l' id = l id) : lstOf l' id = lstOf l id := by
  unfold lstOf
  rw [h]
theorem opIndexAddr_local {P : Program} {l l' : Look} {t : TypeId} {a b : V} {ps : List Ev} {ob : Prop} {r : Out} (h : opIndexAddr P l t a b ps ob = some r) (hl : ∀ id ∈ r.fp, l' id = l id) : opIndexAddr P l' t a b ps ob = some r := by
  unfold opIndexAddr at h ⊢
  split at h
  · exact h
  · rename_i elem id j len s' k i hu
    split at h
    · rename_i ps1 ob1 hm
      split at h
      · rename_i B hB
        split at h
        · rename_i kk ps2 ob2 hk
          split at h
          · rename_i hsz
            cases h
            simp only [hm, hl id (by simp), hB, hk]
            rw [if_pos hsz]
          · cases h
        · cases h
      · cases h
    · cases h
  · rename_i elem id s' k i hu
    split at h
    · rename_i B hB
      split at h
      · rename_i ps1 ob1 hm
        split at h
        · rename_i kk ps2 ob2 hk
          split at h
          · rename_i hsz
            cases h
            simp only [lstOf_local (hl id (by simp)), hB, hm, hk]
            rw [if_pos hsz]
          · cases h
        · cases h
      · cases h
    · cases h
  · exact h
  · exact h
  · cases h
theorem opSlice_local {P : Program} {l l' : Look} {t : TypeId} {a : V} {x y : Option (Bool × Int)} {ps : List Ev} {ob : Prop} {r : Out} (h : opSlice P l t a x y ps ob = some r) (hl : ∀ id ∈ r.fp, l' id = l id) : opSlice P l' t a x y ps ob = some r := by
  unfold opSlice at h ⊢
  simp only at h ⊢
  split at h
  · cases h
  · rename_i hn
    rw [if_neg hn]
    split at h
    · exact h
    · rename_i id i len
      split at h
      · rename_i s' A B ps1 ob1 Bk hc hB
        split at h
        · rename_i hsz
          cases h
          simp only [hc, hl id (by simp), hB]
          rw [if_pos hsz]
        · cases h
      · cases h
    · exact h
    · cases h
theorem appBase_local {l l' : Look} {sz : Nat} {v : V} {xs : List V} {ids : List Nat} (h : appBase l sz v = some (xs, ids)) (hl : ∀ id ∈ ids, l' id = l id) : appBase l' sz v = some (xs, ids) := by
  unfold appBase at h ⊢
  split at h
  · exact h
  · split at h
    · rename_i B hB
      split at h
      · rename_i hs
        split at h
        · rename_i ys hm
          cases h
          simp only [hl _ (List.mem_singleton_self _), hB]
          rw [if_pos hs, hm]
        · cases h
      · cases h
    · cases h
  · cases h
theorem appSrc_local {l l' : Look} {sz : Nat} {v : V} {s : Bool} {xs : List V} {ids : List Nat} (h : appSrc l sz v = some (s, xs, ids)) (hl : ∀ id ∈ ids, l' id = l id) : appSrc l' sz v = some (s, xs, ids) := by
  unfold appSrc at h ⊢
  split at h
  · exact h
  · exact h
  · split at h
    · rename_i B hB
      split at h
      · rename_i hs
        split at h
        · rename_i ys hm
          cases h
          simp only [hl _ (List.mem_singleton_self _), hB]
          rw [if_pos hs, hm]
        · cases h
      · cases h
    · cases h
  · split at h
    · rename_i B hB
      split at h
      · rename_i hs
        cases h
        simp only [lstOf_local (hl _ (List.mem_singleton_self _)), hB]
        rw [if_pos hs]
      · cases h
    · cases h
  · exact h
  · cases h
theorem appBaseO_local {l l' : Look} {sz : Nat} {g : Bool} {v : V} {b : Bool} {xs : List V} {ids : List Nat} {t : Option TypeId} (h : appBaseO l sz g v = some (b, xs, ids, t)) (hl : ∀ id ∈ ids, l' id = l id) : appBaseO l' sz g v = some (b, xs, ids, t) := by
  unfold appBaseO at h ⊢
  split at h
  · exact h
  · split at h
    · rename_i B hB
      split at h
      · rename_i hs
        cases h
        simp only [lstOf_local (hl _ (List.mem_singleton_self _)), hB]
        rw [if_pos hs]
      · cases h
    · cases h
  · cases h
theorem opAppO_fp {P : Program} {nid : Nat} {elem : TypeId} {bs : Bool} {xs ys : List V} {ids js : List Nat} {t : Option TypeId} {s : Bool} {ps : List Ev} {ob : Prop} {r : Out} (h : opAppO P nid elem bs xs ids t s ys js ps ob = some r) : ∀ id, id ∈ ids ∨ id ∈ js → id ∈ r.fp := by
  intro id hid
  unfold opAppO at h
  split at h
  · split at h
    · cases h; exact List.mem_append.2 hid
    · cases h
  · cases h
theorem opAppO_ob {P : Program} {nid : Nat} {elem : TypeId} {bs : Bool} {xs ys : List V} {ids js : List Nat} {t : Option TypeId} {s : Bool} {ps : List Ev} {ob : Prop} {r : Out} (h : opAppO P nid elem bs xs ids t s ys js ps ob = some r) (ho : r.ob) : ob := by
  unfold opAppO at h
  split at h
  · rename_i hm
    split at h
    · cases h; exact (must_ob hm ho).1
    · cases h
  · cases h
theorem lenV_local {l l' : Look} {d : TypeDesc} {v : V} (hl : ∀ id ∈ lenFp v, l' id = l id) : lenV l' d v = lenV l d v := by
  unfold lenV
  split
  · rfl
  · rfl
  · rfl
  · rfl
  · rw [lstOf_local (hl _ (by simp [lenFp]))]
  · rfl
theorem opAppend_fp {P : Program} {nid : Nat} {elem : TypeId} {xs ys : List V} {ids js : List Nat} {s : Bool} {ps : List Ev} {ob : Prop} {r : Out} (h : opAppend P nid elem xs ids s ys js ps ob = some r) : ∀ id, id ∈ ids ∨ id ∈ js → id ∈ r.fp := by
  have main : ∀ (ps : List Ev) (ob : Prop), (match must s (okElems P elem ys && decide (xs.length + ys.length ≤ maxApp)) ps ob with
    | some (ps, ob) =>
      if zeroOk P elem ∧ okElems P elem xs ∧ (ids.all fun i => !js.contains i) then
        some (⟨.msl nid 0 (xs.length + ys.length), ids.map (·, none), [some { es := xs ++ ys, sz := P.cellsOf elem, dirty := true, lty := some elem }], ids ++ js, ps, ob⟩ : Out)
      else none
    | none => none) = some r → ∀ id, id ∈ ids ∨ id ∈ js → id ∈ r.fp := by
    intro ps ob h id hid
    split at h
    · split at h
      · cases h; exact List.mem_append.2 hid
      · cases h
    · cases h
  unfold opAppend at h
  simp only at h
  split at h
  · split at h
    · split at h
      · cases h; intro id hid; rcases hid with hid | hid
        · simp at hid
        · exact hid
      · cases h
    · exact main _ _ h
    · cases h
  · exact main _ _ h
theorem opBuiltin_local {E : Env} {l l' : Look} {nid : Nat} {g : Bool} {b : Builtin} {ts : Array TypeId} {args : List V} {ps : List Ev} {ob : Prop} {r : Out} (h : opBuiltin E l nid g b ts args ps ob = some r) (hl : ∀ id ∈ r.fp, l' id = l id) : opBuiltin E l' nid g b ts args ps ob = some r := by
  unfold opBuiltin at h ⊢
  split at h
  · split at h
    · rename_i d hd
      have hfp : ∀ id ∈ lenFp ‹V›, l' id = l id := by
        split at h
        · split at h
          · cases h; exact hl
          · cases h
        · cases h
      rw [lenV_local hfp]
      exact h
    · cases h
  · exact h
  · exact h
  · split at h
    · rename_i elem d1 hu hu1
      split at h
      · rename_i hs
        split at h
        · rename_i ho
          split at h
          · rename_i bs xs ids t sy ys js h1 h2
            have hfp := opAppO_fp h
            rw [appBaseO_local h1 (fun id hid => hl id (hfp id (.inl hid))), appSrc_local h2 (fun id hid => hl id (hfp id (.inr hid)))]
            exact h
          · cases h
        · rename_i ho
          split at h
          · rename_i xs ids sy ys js h1 h2
            have hfp := opAppend_fp h
            rw [appBase_local h1 (fun id hid => hl id (hfp id (.inl hid))), appSrc_local h2 (fun id hid => hl id (hfp id (.inr hid)))]
            exact h
          · cases h
      · cases h
    · cases h
  · split at h
    · rename_i B hB
      cases h
      simp only [lstOf_local (hl _ (List.mem_singleton_self _)), hB]
    · cases h
  · exact h
  · exact h
  · split at h
    · rename_i B e hB hu
      split at h
      · rename_i ps' ob' hm
        split at h
        · rename_i hc
          cases h
          simp only [lstOf_local (hl _ (List.mem_singleton_self _)), hB, hu, hm]
          rw [if_pos hc]
        · cases h
      · cases h
    · cases h
  · cases h
mutual
theorem fz_local {l l' : Look} (res : Nat → Bool) : ∀ (n : Nat) (v v' : V) (ids : List Nat), fz l res n v = some (v', ids) → (∀ id ∈ ids, l' id = l id) → fz l' res n v = some (v', ids)
  | 0, _, _, _, h, _ => by simp [fz] at h
  | n + 1, v, v', ids, h, hl => by
    simp only [fz] at h ⊢
    split at h
    · rename_i id i len
      split at h
      · rename_i B hB
        split at h
        · rename_i hs
          split at h
          · rename_i hc
            cases h
            simp only [hl id (by simp), hB, hs]
            rw [if_pos hc]
          · cases h
        · rename_i hs
          split at h
          · rename_i hc
            split at h
            · rename_i xs ids' hf
              split at h
              · rename_i hp
                cases h
                simp only [hl id (by simp), hB, hs]
                rw [if_pos hc, fzL_local res n _ xs ids' hf (fun k hk => hl k (by simp [hk]))]
                simp only
                rw [if_pos hp]
              · cases h
            · cases h
          · cases h
      · cases h
    · rename_i id i off
      cases hr : res id with
      | true =>
        simp only [hr] at h ⊢
        split at h
        · rename_i B hB
          split at h
          · rename_i e he
            split at h
            · rename_i e' ids' hf
              split at h
              · rename_i hp
                cases h
                simp only [hl id (by simp), hB, he, fz_local res n e e' ids' hf (fun k hk => hl k (by simp [hk]))]
                rw [if_pos hp]
              · cases h
            · cases h
          · cases h
        · cases h
      | false =>
        simp only [hr] at h ⊢
        exact h
    · rename_i id
      split at h
      · rename_i B hB
        split at h
        · rename_i hls
          split at h
          · rename_i hs
            cases h
            simp only [hl id (by simp), hB, hls, hs]
          · rename_i hs
            split at h
            · rename_i xs ids' hf
              split at h
              · rename_i hp
                cases h
                simp only [hl id (by simp), hB, hls, hs]
                rw [fzL_local res n _ xs ids' hf (fun k hk => hl k (by simp [hk]))]
                simp only
                rw [if_pos hp]
              · cases h
            · cases h
        · cases h
      · cases h
    · exact h
    · rename_i cs
      split at h
      · rename_i cs' ids' hf
        cases h
        rw [fzL_local res n _ cs' ids hf hl]
      · cases h
    · rename_i cs
      split at h
      · rename_i cs' ids' hf
        cases h
        rw [fzL_local res n _ cs' ids hf hl]
      · cases h
    · cases h
    · cases h
    · exact h
theorem fzL_local {l l' : Look} (res : Nat → Bool) : ∀ (n : Nat) (vs vs' : List V) (ids : List Nat), fzL l res n vs = some (vs', ids) → (∀ id ∈ ids, l' id = l id) → fzL l' res n vs = some (vs', ids)
  | 0, _, _, _, h, _ => by simp [fzL] at h
  | n + 1, [], vs', ids, h, _ => by simpa [fzL] using h
  | n + 1, x :: xs, vs', ids, h, hl => by
    simp only [fzL] at h ⊢
    split at h
    · rename_i x' i xs' j h1 h2
      cases h
      rw [fz_local res n x x' i h1 (fun k hk => hl k (by simp [hk])), fzL_local res n xs xs' j h2 (fun k hk => hl k (by simp [hk]))]
    · cases h
end
theorem fzArgs_local {l l' : Look} (keep : Bool) : ∀ (vs vs' : List V) (ids : List Nat), fzArgs l keep vs = some (vs', ids) → (∀ id ∈ ids, l' id = l id) → fzArgs l' keep vs = some (vs', ids)
  | [], _, _, h, _ => by simpa [fzArgs] using h
  | v :: vs, vs', ids, h, hl => by
    simp only [fzArgs] at h ⊢
    split at h
    · rename_i x i xs j h1 h2
      cases h
      have h3 : (if keep = true then some (v, []) else fz l' (fun _ => false) 10000 v) = some (x, i) := by
        cases keep with
        | true => simpa using h1
        | false => simpa using fz_local _ _ _ _ _ (by simpa using h1) (fun k hk => hl k (by simp [hk]))
      rw [h3, fzArgs_local keep vs xs j h2 (fun k hk => hl k (by simp [hk]))]
    · cases h
theorem reach_mono {l : Look} : ∀ (n : Nat) (vs : List V) (acc m : List Nat), reach l n vs acc = some m → ∀ id ∈ acc, id ∈ m
  | 0, _, _, _, h => by simp [reach] at h
  | n + 1, [], acc, m, h => by simp [reach] at h; subst h; exact fun id hid => hid
  | n + 1, v :: vs, acc, m, h => by
    intro id hid
    have step : ∀ i, (match acc.contains i with
      | true => reach l n vs acc
      | false => match l i with
        | some b => reach l n (match b.sym with | true => vs | false => b.es ++ vs) (acc ++ [i])
        | none => none) = some m → id ∈ m := by
      intro i h
      split at h
      · exact reach_mono n _ _ m h id hid
      · split at h
        · exact reach_mono n _ _ m h id (List.mem_append_left _ hid)
        · cases h
    cases v <;> simp only [reach] at h <;> first
      | exact reach_mono n _ _ m h id hid
      | exact step _ h
theorem reach_local {l l' : Look} : ∀ (n : Nat) (vs : List V) (acc m : List Nat), reach l n vs acc = some m → (∀ id ∈ m, l' id = l id) → reach l' n vs acc = some m
  | 0, _, _, _, h, _ => by simp [reach] at h
  | n + 1, [], acc, m, h, _ => by simpa [reach] using h
  | n + 1, v :: vs, acc, m, h, hl => by
    have step : ∀ i, (match acc.contains i with
      | true => reach l n vs acc
      | false => match l i with
        | some b => reach l n (match b.sym with | true => vs | false => b.es ++ vs) (acc ++ [i])
        | none => none) = some m → (match acc.contains i with
      | true => reach l' n vs acc
      | false => match l' i with
        | some b => reach l' n (match b.sym with | true => vs | false => b.es ++ vs) (acc ++ [i])
        | none => none) = some m := by
      intro i h
      cases hc : acc.contains i with
      | true => simp only [hc] at h ⊢; exact reach_local n _ _ m h hl
      | false =>
        simp only [hc] at h ⊢
        cases hb : l i with
        | none => simp only [hb] at h; cases h
        | some b =>
          simp only [hb] at h
          have hi : i ∈ m := reach_mono n _ _ m h i (by simp)
          simp only [hl i hi, hb]
          exact reach_local n _ _ m h hl
    cases v <;> simp only [reach] at h ⊢ <;> first
      | exact reach_local n _ _ m h hl
      | exact step _ h
theorem doCall_local {E : Env} {l l' : Look} {nid : Nat} {ps : List Ev} {ob : Prop} {f : FuncId} {args : List V} {r : Out} (h : doCall E l nid ps ob f args = some r) (hl : ∀ id ∈ r.fp, l' id = l id) : doCall E l' nid ps ob f args = some r := by
  unfold doCall at h ⊢
  split at h
  · cases h
  · rename_i vals kills hf
    simp only at h
    split at h
    · cases h
    · rename_i m hreach
      have hfp : ∀ {v : V} {H' : Heap} {ps : List Ev} {ob : Prop}, fin nid m kills v H' ps ob = some r → r.fp = kills ++ m := by
        intro v H' ps ob hh
        unfold fin at hh
        split at hh
        · cases hh; rfl
        · cases hh
      have hfp' : r.fp = kills ++ m := by
        split at h
        · split at h
          · exact hfp h
          · split at h
            · exact hfp h
            · cases h
        · cases h
      have hk : ∀ id ∈ kills, l' id = l id := fun id hid => hl id (by rw [hfp']; exact List.mem_append_left _ hid)
      have hm : ∀ id ∈ m, l' id = l id := fun id hid => hl id (by rw [hfp']; exact List.mem_append_right _ hid)
      have hm' : ∀ id ∈ m, (fun id => if kills.contains id = true then none else l' id) id = (fun id => if kills.contains id = true then none else l id) id := by
        intro id hid
        dsimp only
        rw [hm id hid]
      rw [fzArgs_local _ _ _ _ hf hk]
      simp only
      rw [reach_local _ _ _ _ hreach hm']
      simp only
      have e1 : (m.map fun id => Option.map (renB (indexOf m) false) (if kills.contains id = true then none else l' id)) = (m.map fun id => Option.map (renB (indexOf m) false) (if kills.contains id = true then none else l id)) :=
        List.map_congr_left fun id hid => by rw [hm id hid]
      have e2 : (m.all fun id => blkOk (indexOf m) (if kills.contains id = true then none else l' id)) = (m.all fun id => blkOk (indexOf m) (if kills.contains id = true then none else l id)) := by
        rw [Bool.eq_iff_iff, List.all_eq_true, List.all_eq_true]
        exact ⟨fun g id hid => by rw [← hm id hid]; exact g id hid, fun g id hid => by rw [hm id hid]; exact g id hid⟩
      rw [e1, e2]
      exact h
theorem evs_local {T T' : List V} : ∀ {os : List Operand}, (∀ x ∈ os, ev T' x = ev T x) → evs T' os = evs T os
  | [], _ => rfl
  | o :: os, h => by simp only [evs]; rw [h o (by simp), evs_local (fun x hx => h x (by simp [hx]))]
theorem partsV_local {T T' : List V} : ∀ {ps : List (Nat × Operand)}, (∀ x ∈ ps, ev T' x.2 = ev T x.2) → partsV T' ps = partsV T ps
  | [], _ => rfl
  | (i, o) :: ps, h => by
    simp only [partsV]
    rw [h (i, o) (by simp), partsV_local (fun x hx => h x (by simp [hx]))]
theorem optInt_local {T T' : List V} {o : Option Operand} (h : ∀ x ∈ o.toArray, ev T' x = ev T x) : optInt T' o = optInt T o := by
  cases o with
  | none => rfl
  | some x => simp only [optInt]; rw [h x (by simp)]
theorem iop_local {E : Env} {T T' : List V} {l l' : Look} {nid : Nat} {o : Oper} {ps : List Ev} {ob : Prop} {r : Out} (h : iop E T l nid o ps ob = some r) (hT : ∀ x ∈ o.op.operands, ev T' x = ev T x) (hl : ∀ id ∈ r.fp, l' id = l id) :
    iop E T' l' nid o ps ob = some r := by
  unfold iop at h ⊢
  simp only at h ⊢
  cases hop : o.op <;> simp only [hop] at h ⊢ hT <;> try (cases h; done)
  case move x => rw [hT x (by simp [Op.operands])]; exact h
  case assign x => rw [hT x (by simp [Op.operands])]; exact h
  case pick c x y => rw [hT c (by simp [Op.operands]), hT x (by simp [Op.operands]), hT y (by simp [Op.operands])]; exact h
  case alloc t => exact h
  case box t x => rw [hT x (by simp [Op.operands])]; exact h
  case build t parts => rw [partsV_local (fun x hx => hT x.2 (by simp [Op.operands]; exact ⟨x.1, by simpa using hx⟩))]; exact h
  case buildSlice t n parts => rw [partsV_local (fun x hx => hT x.2 (by simp [Op.operands]; exact ⟨x.1, by simpa using hx⟩))]; exact h
  case load t x =>
    rw [hT x (by simp [Op.operands])]
    split at h
    · exact opLoad_local h hl
    · cases h
  case store t x y =>
    rw [hT x (by simp [Op.operands]), hT y (by simp [Op.operands])]
    split at h
    · exact opStore_local h hl
    · cases h
  case nilCheck x => rw [hT x (by simp [Op.operands])]; exact h
  case binOp op t x y t' => rw [hT x (by simp [Op.operands]), hT y (by simp [Op.operands])]; exact h
  case unOp op t x => rw [hT x (by simp [Op.operands])]; exact h
  case convert s d x =>
    rw [hT x (by simp [Op.operands])]
    split at h
    · exact h
    · exact h
    · exact h
    · rename_i id i off hx
      split at h
      · rename_i t B hs hd hB
        split at h
        · rename_i hc
          cases h
          simp only [hx, hs, hd, hl id (by simp), hB]
          rw [if_pos hc]
        · cases h
      · rename_i u B hs hd hB
        split at h
        · rename_i e he
          split at h
          · rename_i hc
            cases h
            simp only [hx, hs, hd, hl id (by simp), hB, he]
            rw [if_pos hc]
          · cases h
        · cases h
      · cases h
    · cases h
  case makeInterface t x => rw [hT x (by simp [Op.operands])]; exact h
  case makeFunc f a b =>
    rw [evs_local (fun x hx => hT x (by simp [Op.operands]; exact .inl (by simpa using hx))), evs_local (fun x hx => hT x (by simp [Op.operands]; exact .inr (by simpa using hx)))]
    exact h
  case makeSlice t x y => rw [hT x (by simp [Op.operands]), hT y (by simp [Op.operands])]; exact h
  case slice t x lo hi mx =>
    cases mx with
    | some m => cases h
    | none =>
      simp only at h ⊢
      rw [hT x (by simp [Op.operands]), optInt_local (fun y hy => hT y (by simp [Op.operands]; simp at hy; simp [hy])), optInt_local (o := hi) (fun y hy => hT y (by simp [Op.operands]; simp at hy; simp [hy]))]
      split at h
      · split at h
        · exact opSlice_local h hl
        · exact h
        · cases h
      · cases h
  case fieldAddr s x f => rw [hT x (by simp [Op.operands])]; exact h
  case field s x f => rw [hT x (by simp [Op.operands])]; exact h
  case indexAddr t x i =>
    rw [hT x (by simp [Op.operands]), hT i (by simp [Op.operands])]
    split at h
    · exact opIndexAddr_local h hl
    · cases h
  case index t x i => rw [hT x (by simp [Op.operands]), hT i (by simp [Op.operands])]; exact h
  case extract x i => rw [hT x (by simp [Op.operands])]; exact h
  case call c =>
    rw [evs_local (fun x hx => hT x (by simp [Op.operands, Call.operands]; exact .inr (by simpa using hx)))]
    split at h
    · rename_i args ha
      cases hc : c.callee with
      | builtin b => simp only [hc] at h ⊢; exact opBuiltin_local h hl
      | value f =>
        simp only [hc] at h ⊢
        rw [hT f (by simp [Op.operands, Call.operands, hc])]
        split at h
        · split at h
          · rename_i hb
            rw [if_pos hb]
            exact doCall_local h hl
          · rename_i hb
            rw [if_neg hb]
            exact h
        · cases h
      | invoke x m => simp only [hc] at h; cases h
    · cases h
theorem opBin_ob {P : Program} {op : BinOp} {t : TypeId} {a b : V} {ps : List Ev} {ob : Prop} {r : Out} (h : opBin P op t a b ps ob = some r) (ho : r.ob) : ob := by
  unfold opBin at h
  split at h
  · split at h
    · split at h
      · rename_i hm; cases h; exact (must_ob hm ho).1
      · cases h
    · cases h
  · split at h
    · split at h
      · rename_i hm; cases h; exact (must_ob hm ho).1
      · cases h
    · cases h
  · split at h
    · rename_i hm; cases h; exact (must_ob hm ho).1
    · cases h
  · split at h
    · rename_i hm; cases h; exact (must_ob hm ho).1
    · cases h
  · split at h
    · rename_i hm; cases h; exact (must_ob hm ho).1
    · cases h
  · split at h
    · split at h
      · split at h
        · cases h; exact ho
        · cases h
      · cases h
    · split at h
      · split at h
        · cases h; exact ho
        · cases h
      · split at h
        · cases h; exact ho
        · cases h
      · cases h
theorem opIndexAddr_ob {P : Program} {l : Look} {t : TypeId} {a b : V} {ps : List Ev} {ob : Prop} {r : Out} (h : opIndexAddr P l t a b ps ob = some r) (ho : r.ob) : ob := by
  unfold opIndexAddr at h
  split at h
  · split at h
    · rename_i hm
      split at h
      · rename_i he
        split at h
        · cases h; exact (must_ob hm (elemAt_ob he ho).1).1
        · cases h
      · cases h
    · cases h
  · split at h
    · rename_i hm
      split at h
      · split at h
        · rename_i hk
          split at h
          · cases h; exact (must_ob hm (idxAt_ob hk ho).1).1
          · cases h
        · cases h
      · cases h
    · cases h
  · split at h
    · split at h
      · rename_i hm
        split at h
        · rename_i hk
          split at h
          · cases h; exact (must_ob hm (idxAt_ob hk ho).1).1
          · cases h
        · cases h
      · cases h
    · cases h
  · split at h
    · split at h
      · rename_i hm; cases h; exact (must_ob hm ho).1
      · cases h
    · cases h
  · split at h
    · split at h
      · rename_i hm; cases h; exact (must_ob hm ho).1
      · cases h
    · cases h
  · cases h
theorem opSlice_ob {P : Program} {l : Look} {t : TypeId} {a : V} {x y : Option (Bool × Int)} {ps : List Ev} {ob : Prop} {r : Out} (h : opSlice P l t a x y ps ob = some r) (ho : r.ob) : ob := by
  unfold opSlice at h
  simp only at h
  split at h
  · cases h
  · split at h
    · split at h
      · rename_i hc
        split at h
        · cases h; exact (cutV_ob hc ho.1).1
        · split at h
          · cases h; exact (cutV_ob hc ho).1
          · cases h
      · cases h
    · split at h
      · rename_i hc hB
        split at h
        · cases h; exact (cutV_ob hc ho).1
        · cases h
      · cases h
    · split at h
      · rename_i hc; cases h; exact (cutV_ob hc ho).1
      · cases h
    · cases h
theorem opCut_ob {b : ByteArray} {s : Bool} {x y : Option (Bool × Int)} {ps : List Ev} {ob : Prop} {r : Out} (h : opCut b s x y ps ob = some r) (ho : r.ob) : ob := by
  unfold opCut at h
  split at h
  · rename_i hc; cases h; exact (cutV_ob hc ho).1
  · cases h
theorem opAppend_ob {P : Program} {nid : Nat} {elem : TypeId} {xs ys : List V} {ids js : List Nat} {s : Bool} {ps : List Ev} {ob : Prop} {r : Out} (h : opAppend P nid elem xs ids s ys js ps ob = some r) (ho : r.ob) : ob := by
  have main : ∀ (ps : List Ev) (ob : Prop), (match must s (okElems P elem ys && decide (xs.length + ys.length ≤ maxApp)) ps ob with
    | some (ps, ob) =>
      if zeroOk P elem ∧ okElems P elem xs ∧ (ids.all fun i => !js.contains i) then
        some (⟨.msl nid 0 (xs.length + ys.length), ids.map (·, none), [some { es := xs ++ ys, sz := P.cellsOf elem, dirty := true, lty := some elem }], ids ++ js, ps, ob⟩ : Out)
      else none
    | none => none) = some r → ob := by
    intro ps ob h
    split at h
    · rename_i hm
      split at h
      · cases h; exact (must_ob hm ho).1
      · cases h
    · cases h
  unfold opAppend at h
  simp only at h
  split at h
  · split at h
    · rename_i hk
      split at h
      · cases h; exact (ask_ob hk ho).1
      · cases h
    · rename_i hk; exact (ask_ob hk (main _ _ h)).1
    · cases h
  · exact main _ _ h
theorem fin_ob {nid : Nat} {m kills : List Nat} {v : V} {H' : Heap} {ps : List Ev} {ob : Prop} {r : Out} (h : fin nid m kills v H' ps ob = some r) (ho : r.ob) : ob := by
  unfold fin at h
  split at h
  · cases h; exact ho
  · cases h
theorem doCall_ob {E : Env} {l : Look} {nid : Nat} {ps : List Ev} {ob : Prop} {f : FuncId} {args : List V} {r : Out} (h : doCall E l nid ps ob f args = some r) (ho : r.ob) : ob := by
  unfold doCall at h
  split at h
  · cases h
  · simp only at h
    split at h
    · cases h
    · split at h
      · split at h
        · exact (fin_ob h ho).1
        · split at h
          · exact fin_ob h ho
          · cases h
      · cases h
theorem opLoad_ob {P : Program} {l : Look} {t : TypeId} {p : V} {ps : List Ev} {ob : Prop} {r : Out} (h : opLoad P l t p ps ob = some r) (ho : r.ob) : ob := by
  unfold opLoad at h
  repeat' (split at h)
  all_goals first
    | (cases h; exact ho)
    | (rename_i he _ _ _; cases h; exact (elemAt_ob he ho).1)
    | (rename_i he _ _; cases h; exact (elemAt_ob he ho).1)
    | cases h
theorem opStore_ob {P : Program} {l : Look} {t : TypeId} {p v : V} {ps : List Ev} {ob : Prop} {r : Out} (h : opStore P l t p v ps ob = some r) (ho : r.ob) : ob := by
  unfold opStore at h
  repeat' (split at h)
  all_goals first
    | (cases h; exact ho)
    | cases h
theorem opBuiltin_ob {E : Env} {l : Look} {nid : Nat} {g : Bool} {b : Builtin} {ts : Array TypeId} {args : List V} {ps : List Ev} {ob : Prop} {r : Out} (h : opBuiltin E l nid g b ts args ps ob = some r) (ho : r.ob) : ob := by
  unfold opBuiltin at h
  split at h
  · repeat' (split at h)
    all_goals first
      | (cases h; exact ho)
      | (rename_i hm; cases h; exact (must_ob hm ho).1)
      | cases h
  · split at h
    · cases h; exact ho
    · cases h
  · split at h
    · cases h; exact ho
    · cases h
  · split at h
    · split at h
      · split at h
        · split at h
          · exact opAppO_ob h ho
          · cases h
        · split at h
          · exact opAppend_ob h ho
          · cases h
      · cases h
    · cases h
  · split at h
    · cases h; exact ho
    · cases h
  · cases h; exact ho
  · split at h
    · rename_i hm; cases h; exact (must_ob hm ho).1
    · cases h
  · split at h
    · split at h
      · rename_i hm
        split at h
        · cases h; exact (must_ob hm ho).1
        · cases h
      · cases h
    · cases h
  · cases h
theorem iop_ob {E : Env} {T : List V} {l : Look} {nid : Nat} {o : Oper} {ps : List Ev} {ob : Prop} {r : Out} (h : iop E T l nid o ps ob = some r) (ho : r.ob) : ob := by
  unfold iop at h
  simp only at h
  cases hop : o.op <;> simp only [hop] at h <;> try (cases h; done)
  case pick c x y =>
    split at h
    · split at h
      · rename_i hk; cases h; exact (ask_ob hk ho).1
      · rename_i hk; cases h; exact (ask_ob hk ho).1
      · cases h
    · cases h
  case load t x =>
    split at h
    · exact opLoad_ob h ho
    · cases h
  case store t x y =>
    split at h
    · exact opStore_ob h ho
    · cases h
  case binOp op t x y t' =>
    split at h
    · exact opBin_ob h ho
    · cases h
  case slice t x lo hi mx =>
    cases mx with
    | some m => cases h
    | none =>
      simp only at h
      split at h
      · split at h
        · exact opSlice_ob h ho
        · exact opCut_ob h ho
        · cases h
      · cases h
  case indexAddr t x i =>
    split at h
    · exact opIndexAddr_ob h ho
    · cases h
  case index t x i =>
    split at h
    · split at h
      · rename_i hm; cases h; exact (must_ob hm ho).1
      · cases h
    · split at h
      · rename_i hm
        split at h
        · cases h; exact (must_ob hm ho).1
        · cases h
      · cases h
    · cases h
  case call c =>
    split at h
    · split at h
      · exact opBuiltin_ob h ho
      · split at h
        · split at h
          · exact doCall_ob h ho
          · split at h
            · cases h; exact ho
            · cases h
        · cases h
      · cases h
    · cases h
  case convert s d x =>
    split at h
    · split at h
      · cases h; exact ho
      · cases h
    · split at h
      · cases h; exact ho
      · cases h
    · split at h
      · split at h
        · split at h
          · rename_i hm; cases h; exact (must_ob hm ho).1
          · cases h
        · cases h
      · cases h
    · repeat' (split at h)
      all_goals first
        | (cases h; exact ho)
        | cases h
    · cases h
  all_goals
    repeat' (split at h)
    all_goals first
      | (cases h; exact ho)
      | cases h
theorem wantedV_ob {T : List V} {ops : Array Oper} {o : Oper} {ps ps' : List Ev} {ob ob' : Prop} {c : Bool} (h : wantedV ops T o ps ob = some (c, ps', ob')) (ho : ob') : ob := by
  unfold wantedV at h
  split at h
  · cases h; exact ho
  · split at h
    · split at h
      · rename_i hk; cases h; exact (ask_ob hk ho).1
      · cases h
    · cases h; exact ho
    · cases h
theorem settle_ob {ops : Array Oper} {j : Nat} {r r' : Out} (h : settle ops j r = some r') (ho : r'.ob) : r.ob ∧ r'.upd = r.upd ∧ r'.new = r.new ∧ r'.fp = r.fp ∧ ∀ (hp : Array Obj) (own : Nat → Prop) (ρ : Rho) (x : Value), VR hp own ρ r.v x → VR hp own ρ r'.v x := by
  unfold settle at h
  split at h
  · rename_i b hv
    split at h
    · split at h
      · cases h
        refine ⟨ho.1, rfl, rfl, rfl, fun hp own ρ x hx => ?_⟩
        rw [hv] at hx
        rw [vr_bool hx, ho.2]
        exact .imm _ _ (.bool _ _)
      · cases h
        refine ⟨ho.1, rfl, rfl, rfl, fun hp own ρ x hx => ?_⟩
        rw [hv] at hx
        rw [vr_bool hx, ho.2]
        exact .imm _ _ (.bool _ _)
      · cases h
        refine ⟨ho.1, rfl, rfl, rfl, fun hp own ρ x hx => ?_⟩
        rw [hv] at hx
        rw [vr_bool hx, ho.2]
        exact .imm _ _ (.bool _ _)
      · cases h
    · cases h; exact ⟨ho, rfl, rfl, rfl, fun _ _ _ _ h => h⟩
  · cases h; exact ⟨ho, rfl, rfl, rfl, fun _ _ _ _ h => h⟩
theorem settle_same {ops : Array Oper} {j : Nat} {r r' : Out} (h : settle ops j r = some r') : r'.upd = r.upd ∧ r'.new = r.new ∧ r'.fp = r.fp := by
  unfold settle at h
  split at h
  · split at h
    · split at h
      · cases h; exact ⟨rfl, rfl, rfl⟩
      · cases h; exact ⟨rfl, rfl, rfl⟩
      · cases h; exact ⟨rfl, rfl, rfl⟩
      · cases h
    · cases h; exact ⟨rfl, rfl, rfl⟩
  · cases h; exact ⟨rfl, rfl, rfl⟩
theorem frzO_cases {look : Look} {o : Oper} {z : List Nat} {r r' : Out} (h : frzO look o z r = some r') : r' = r ∨ (r.upd = [] ∧ r.new = [] ∧ ∃ v' ids, fz look (fun _ => false) 10000 r.v = some (v', ids) ∧ r' = ⟨v', ids.map fun id => (id, none), [], ids ++ r.fp, r.ps, r.ob⟩) := by
  unfold frzO at h
  split at h
  · split at h
    · split at h
      · rename_i hu hn
        split at h
        · rename_i v' ids hz; cases h; exact .inr ⟨hu, hn, v', ids, hz, rfl⟩
        · cases h
      · cases h
    · cases h; exact .inl rfl
  · cases h; exact .inl rfl
theorem iopF_ob {E : Env} {T : List V} {l : Look} {nid : Nat} {o : Oper} {ps : List Ev} {ob : Prop} {r : Out} (h : iopF E T l nid o ps ob = some r) (ho : r.ob) : ob := by
  unfold iopF at h
  split at h
  · rename_i r0 hr
    rcases frzO_cases h with rfl | ⟨_, _, v', ids, _, rfl⟩
    · exact iop_ob hr ho
    · exact iop_ob hr ho
  · cases h
theorem iopF_local {E : Env} {T T' : List V} {l l' : Look} {nid : Nat} {o : Oper} {ps : List Ev} {ob : Prop} {r : Out} (h : iopF E T l nid o ps ob = some r) (hT : ∀ x ∈ o.op.operands, ev T' x = ev T x) (hl : ∀ id ∈ r.fp, l' id = l id) :
    iopF E T' l' nid o ps ob = some r := by
  unfold iopF at h ⊢
  split at h
  · rename_i r0 hr
    have hsub : ∀ id ∈ r0.fp, l' id = l id := by
      rcases frzO_cases h with rfl | ⟨_, _, v', ids, _, rfl⟩
      · exact hl
      · exact fun id hid => hl id (by simp [hid])
    rw [iop_local hr hT hsub]
    show frzO l' o E.cx.frz r0 = some r
    unfold frzO at h ⊢
    split at h
    · split at h
      · split at h
        · split at h
          · rename_i v' ids hz
            cases h
            rw [fz_local _ _ _ _ _ hz (fun id hid => hl id (by simp [hid]))]
          · cases h
        · cases h
      · exact h
    · exact h
  · cases h
theorem iopF_does {E : Env} (hE : EnvOk E) {X : Cr} {w : World} {l : Look} (hl : RelL X w l) {T : List V} {a : Act} (hs : SR X w T a) {nid : Nat} {o : Oper} {ps : List Ev} {ob : Prop} {r : Out}
    (h : iopF E T l nid o ps ob = some r) (hob : r.ob) (hfresh : ∀ k, nid ≤ k → k < nid + r.new.length → X.ρ.no k) : Does E X w a o l nid r ob := by
  unfold iopF at h
  split at h
  · rename_i r0 hr
    rcases frzO_cases h with rfl | ⟨hu, hn, v', ids, hz, rfl⟩
    · exact iop_does hE hl hs hr hob hfresh
    · obtain ⟨g0, g1⟩ := iop_does hE hl hs hr hob (by rw [hn]; intro k h1 h2; exact absurd h2 (by simp; omega))
      refine ⟨g0, fun K Q hK => g1 K Q fun X' w' x hg => ?_⟩
      have hst := hg.step
      rw [hu, hn, newL_nil] at hst
      have hst' : Step X w l X' w' l := hst
      have hls := less_step hst'.rel ids
      refine hK (X'.less l ids) w' x ⟨?_, (fz_ok hst'.rel (fun _ => false) ids 10000 _ _ _ hz (fun i hi => hi)).1 x hg.val, fun id hid hnew => ?_⟩
      · show Step X w l (X'.less l ids) w' (newL (updL l (ids.map fun id => (id, none))) nid [])
        rw [newL_nil, updL_kills]
        exact Step.trans hl hst' hls
      · exact hg.dom id hid (by rw [hn]; simp)
  · cases h
theorem iopS_ob {E : Env} {ops : Array Oper} {j : Nat} {T : List V} {l : Look} {nid : Nat} {o : Oper} {ps : List Ev} {ob : Prop} {r : Out} (h : iopS E ops j T l nid o ps ob = some r) (ho : r.ob) : ob := by
  unfold iopS at h
  split at h
  · rename_i r0 hr; exact iopF_ob hr (settle_ob h ho).1
  · cases h
theorem iopS_local {E : Env} {ops : Array Oper} {j : Nat} {T T' : List V} {l l' : Look} {nid : Nat} {o : Oper} {ps : List Ev} {ob : Prop} {r : Out} (h : iopS E ops j T l nid o ps ob = some r) (hT : ∀ x ∈ o.op.operands, ev T' x = ev T x) (hl : ∀ id ∈ r.fp, l' id = l id) :
    iopS E ops j T' l' nid o ps ob = some r := by
  unfold iopS at h ⊢
  split at h
  · rename_i r0 hr
    rw [iopF_local hr hT (fun id hid => hl id (by rw [(settle_same h).2.2]; exact hid))]
    exact h
  · cases h
theorem iopS_does {E : Env} (hE : EnvOk E) {ops : Array Oper} {j : Nat} {X : Cr} {w : World} {l : Look} (hl : RelL X w l) {T : List V} {a : Act} (hs : SR X w T a) {nid : Nat} {o : Oper} {ps : List Ev} {ob : Prop} {r : Out}
    (h : iopS E ops j T l nid o ps ob = some r) (hob : r.ob) (hfresh : ∀ k, nid ≤ k → k < nid + r.new.length → X.ρ.no k) : Does E X w a o l nid r ob := by
  unfold iopS at h
  split at h
  · rename_i r0 hr
    obtain ⟨h1, h2, h3, h4, h5⟩ := settle_ob h hob
    obtain ⟨g0, g1⟩ := iopF_does hE hl hs hr h1 (by rw [← h3]; exact hfresh)
    refine ⟨g0, fun K Q hK => g1 K Q fun X' w' x hg => hK X' w' x ⟨by rw [h2, h3]; exact hg.step, h5 _ _ _ _ hg.val, by rw [h3]; exact hg.dom⟩⟩
  · cases h
end Go.Im
