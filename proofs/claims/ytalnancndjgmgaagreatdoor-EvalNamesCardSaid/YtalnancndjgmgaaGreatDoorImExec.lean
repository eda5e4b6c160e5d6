/- The ideal machine: code, and calls. -/
import Derived.Test.YtalnancndjgmgaaGreatDoorImDrawn
namespace Go.Im
set_option linter.unusedVariables false
set_option linter.unusedSimpArgs false
theorem runDrawn_ob {E : Env} {ops : Array Oper} {base : Nat} : ∀ (rest : List Oper) (k : Nat) (st st' : St) (log : Log), runDrawn E ops base k rest st = some (st', log) → st'.ob → st.ob
  | [], k, st, st', log, h, ho => by simp only [runDrawn] at h; cases h; exact ho
  | o :: rest, k, st, st', log, h, ho => by
    simp only [runDrawn] at h
    split at h
    · rename_i hw
      split at h
      · rename_i hr
        split at h
        · split at h
          · rename_i hrest
            cases h
            exact wantedV_ob hw (iopS_ob hr (runDrawn_ob rest _ _ _ _ hrest ho))
          · cases h
        · cases h
      · cases h
    · rename_i hw
      split at h
      · rename_i hrest
        cases h
        exact wantedV_ob hw (runDrawn_ob rest _ _ _ _ hrest ho)
      · cases h
    · cases h
/-- What is written is marked. -/
def Marked (upd : List (Nat × Option Blk)) : Prop := ∀ u ∈ upd, ∀ B, u.2 = some B → B.dirty = true
theorem backUpd_marked (back : Nat → Option Nat) : ∀ (ids : List Nat) (Hs : Heap), Marked (backUpd [] back ids Hs)
  | [], Hs => by simp [backUpd, Marked]
  | id :: ids, [] => by simp [backUpd, Marked]
  | id :: ids, none :: Hs => by
    simp only [backUpd]
    intro u hu B hB
    rcases List.mem_cons.1 hu with rfl | hu
    · cases hB
    · exact backUpd_marked back ids Hs u hu B hB
  | id :: ids, some b :: Hs => by
    simp only [backUpd]
    split
    · intro u hu B hB
      rcases List.mem_cons.1 hu with rfl | hu
      · cases hB; rfl
      · exact backUpd_marked back ids Hs u hu B hB
    · exact backUpd_marked back ids Hs
theorem opAppend_marked {P : Program} {nid : Nat} {elem : TypeId} {xs ys : List V} {ids js : List Nat} {s : Bool} {ps : List Ev} {ob : Prop} {r : Out} (h : opAppend P nid elem xs ids s ys js ps ob = some r) : Marked r.upd := by
  have main : ∀ (ps : List Ev) (ob : Prop), (match must s (okElems P elem ys && decide (xs.length + ys.length ≤ maxApp)) ps ob with
    | some (ps, ob) =>
      if zeroOk P elem ∧ okElems P elem xs ∧ (ids.all fun i => !js.contains i) then
        some (⟨.msl nid 0 (xs.length + ys.length), ids.map (·, none), [some { es := xs ++ ys, sz := P.cellsOf elem, dirty := true, lty := some elem }], ids ++ js, ps, ob⟩ : Out)
      else none
    | none => none) = some r → Marked r.upd := by
    intro ps ob h
    split at h
    · split at h
      · cases h
        intro u hu B hB
        obtain ⟨i, _, rfl⟩ := List.mem_map.1 hu
        cases hB
      · cases h
    · cases h
  unfold opAppend at h
  simp only at h
  split at h
  · split at h
    · split at h
      · cases h; intro u hu; simp at hu
      · cases h
    · exact main _ _ h
    · cases h
  · exact main _ _ h
theorem none_marked {r : Out} (h : r.upd = []) : Marked r.upd := by rw [h]; intro u hu; simp at hu
theorem iop_marked {E : Env} {T : List V} {l : Look} {nid : Nat} {o : Oper} {ps : List Ev} {ob : Prop} {r : Out} (h : iop E T l nid o ps ob = some r) : Marked r.upd := by
  unfold iop at h
  simp only at h
  cases hop : o.op <;> simp only [hop] at h <;> try (cases h; done)
  case store t x y =>
    split at h
    · unfold opStore at h
      repeat' (split at h)
      all_goals first
        | (cases h
           intro u hu B hB
           simp at hu
           subst hu
           cases hB
           rfl)
        | cases h
    · cases h
  case call c =>
    split at h
    · split at h
      · unfold opBuiltin at h
        split at h
        · refine none_marked ?_
          repeat' (split at h)
          all_goals first
            | (cases h; rfl)
            | cases h
        · refine none_marked ?_
          repeat' (split at h)
          all_goals first
            | (cases h; rfl)
            | cases h
        · refine none_marked ?_
          repeat' (split at h)
          all_goals first
            | (cases h; rfl)
            | cases h
        · split at h
          · split at h
            · split at h
              · split at h
                · unfold opAppO at h
                  split at h
                  · split at h
                    · cases h
                      intro u hu B hB
                      obtain ⟨i, _, rfl⟩ := List.mem_map.1 hu
                      cases hB
                    · cases h
                  · cases h
                · cases h
              · split at h
                · exact opAppend_marked h
                · cases h
            · cases h
          · cases h
        · split at h
          · cases h; exact none_marked rfl
          · cases h
        · cases h; exact none_marked rfl
        · split at h
          · cases h; exact none_marked rfl
          · cases h
        · split at h
          · split at h
            · split at h
              · cases h
                intro u hu B hB
                simp at hu
                subst hu
                cases hB
              · cases h
            · cases h
          · cases h
        · cases h
      · split at h
        · split at h
          · have hfin : ∀ {m kills : List Nat} {v : V} {H' : Heap} {ps : List Ev} {ob : Prop}, fin nid m kills v H' ps ob = some r → Marked r.upd := by
              intro m kills v H' ps ob h
              unfold fin at h
              split at h
              · cases h
                intro u hu B hB
                rcases List.mem_append.1 hu with hu | hu
                · obtain ⟨i, _, rfl⟩ := List.mem_map.1 hu
                  cases hB
                · exact backUpd_marked _ _ _ u hu B hB
              · cases h
            unfold doCall at h
            split at h
            · cases h
            · simp only at h
              split at h
              · cases h
              · split at h
                · split at h
                  · exact hfin h
                  · split at h
                    · exact hfin h
                    · cases h
                · cases h
          · split at h
            · cases h; exact none_marked rfl
            · cases h
        · cases h
      · cases h
    · cases h
  case slice t x lo hi mx =>
    cases mx with
    | some m => cases h
    | none =>
      simp only at h
      refine none_marked ?_
      unfold opSlice opCut at h
      simp only at h
      repeat' (split at h)
      all_goals first
        | (cases h; rfl)
        | cases h
  case load t x =>
    refine none_marked ?_
    unfold opLoad at h
    repeat' (split at h)
    all_goals first
      | (cases h; rfl)
      | cases h
  case binOp op t x y t' =>
    refine none_marked ?_
    unfold opBin at h
    repeat' (split at h)
    all_goals first
      | (cases h; rfl)
      | cases h
  case indexAddr t x i =>
    refine none_marked ?_
    unfold opIndexAddr at h
    repeat' (split at h)
    all_goals first
      | (cases h; rfl)
      | cases h
  all_goals
    refine none_marked ?_
    repeat' (split at h)
    all_goals first
      | (cases h; rfl)
      | cases h
theorem iopF_marked {E : Env} {T : List V} {l : Look} {nid : Nat} {o : Oper} {ps : List Ev} {ob : Prop} {r : Out} (h : iopF E T l nid o ps ob = some r) : Marked r.upd := by
  unfold iopF at h
  split at h
  · rename_i r0 hr
    rcases frzO_cases h with rfl | ⟨_, _, v', ids, _, rfl⟩
    · exact iop_marked hr
    · intro u hu B hB
      simp only [List.mem_map] at hu
      obtain ⟨id, _, rfl⟩ := hu
      cases hB
  · cases h
theorem iopS_marked {E : Env} {ops : Array Oper} {j : Nat} {T : List V} {l : Look} {nid : Nat} {o : Oper} {ps : List Ev} {ob : Prop} {r : Out} (h : iopS E ops j T l nid o ps ob = some r) : Marked r.upd := by
  unfold iopS at h
  split at h
  · rename_i r0 hr; rw [(settle_same h).1]; exact iopF_marked hr
  · cases h
theorem putH_clean : ∀ (upd : List (Nat × Option Blk)) (H : Heap), Marked upd → ∀ (j : Nat) (B : Blk), (putH H upd)[j]? = some (some B) → B.dirty = false → H[j]? = some (some B)
  | [], H, _, j, B, h, _ => h
  | (id, b) :: upd, H, hm, j, B, h, hd => by
    have := putH_clean upd (H.set id b) (fun u hu => hm u (by simp [hu])) j B h hd
    rw [List.getElem?_set] at this
    split at this
    · split at this
      · cases this
        have := hm (id, some B) (by simp) B rfl
        rw [hd] at this
        cases this
      · cases this
    · exact this
theorem putH_len : ∀ (upd : List (Nat × Option Blk)) (H : Heap), (putH H upd).length = H.length
  | [], _ => rfl
  | (id, b) :: upd, H => by simp only [putH]; rw [putH_len upd]; simp
theorem Clean.refl (H : Heap) : Clean H H := fun j B _ h _ => h
theorem Clean.trans {A B C : Heap} (h : Clean A B) (k : Clean B C) (hl : A.length ≤ B.length) : Clean A C := fun j b hj hb hd => h j b hj (k j b (by omega) hb hd) hd
theorem runOps_clean {E : Env} {ops : Array Oper} : ∀ (rest : List Oper) (j : Nat) (st st' : St), runOps E ops j rest st = some st' → Clean st.H st'.H ∧ st.H.length ≤ st'.H.length
  | [], j, st, st', h => by simp only [runOps] at h; cases h; exact ⟨Clean.refl _, Nat.le_refl _⟩
  | o :: rest, j, st, st', h => by
    simp only [runOps] at h
    split at h
    · split at h
      · have := runOps_clean rest _ _ st' h
        exact this
      · split at h
        · rename_i r hr
          split at h
          · obtain ⟨h1, h2⟩ := runOps_clean rest _ _ st' h
            dsimp only at h1 h2
            rw [List.length_append, putH_len] at h2
            refine ⟨Clean.trans ?_ h1 (by rw [List.length_append, putH_len]; omega), by omega⟩
            intro j B hj hb hd
            rw [List.getElem?_append_left (by rw [putH_len]; exact hj)] at hb
            exact putH_clean r.upd st.H (iopS_marked hr) j B hb hd
          · cases h
        · cases h
    · have := runOps_clean rest _ _ st' h
      exact this
    · cases h
theorem runDrawn_clean {E : Env} {ops : Array Oper} {base n0 : Nat} (hb : n0 ≤ base) : ∀ (rest : List Oper) (k : Nat) (st st' : St) (log : Log), runDrawn E ops base k rest st = some (st', log) →
    (∀ (j : Nat) (B : Blk), j < n0 → st'.H[j]? = some (some B) → B.dirty = false → st.H[j]? = some (some B)) ∧ st'.H.length = st.H.length
  | [], k, st, st', log, h => by simp only [runDrawn] at h; cases h; exact ⟨fun j B _ h _ => h, rfl⟩
  | o :: rest, k, st, st', log, h => by
    simp only [runDrawn] at h
    split at h
    · split at h
      · rename_i r hr
        split at h
        · split at h
          · rename_i hrest
            cases h
            obtain ⟨h1, h2⟩ := runDrawn_clean hb rest _ _ _ _ hrest
            dsimp only at h1 h2
            have hlen : (putD st.H r (base + k)).length = st.H.length := by unfold putD; split <;> simp [putH_len]
            refine ⟨fun j B hj hB hd => ?_, by rw [h2, hlen]⟩
            have := h1 j B hj hB hd
            unfold putD at this
            split at this
            · exact putH_clean r.upd st.H (iopS_marked hr) j B this hd
            · rw [List.getElem?_set_ne (by omega)] at this
              exact putH_clean r.upd st.H (iopS_marked hr) j B this hd
          · cases h
        · cases h
      · cases h
    · split at h
      · rename_i hrest
        cases h
        have := runDrawn_clean hb rest _ _ _ _ hrest
        exact this
      · cases h
    · cases h
theorem StR.drew {P : Program} {X : Cr} {w : World} {T : List V} {H : Heap} {a : Act} (h : StR P X w T H a) : StR P X { w with drawn := w.drawn + 1 } T H a ∧ Step X w (lookH H) X { w with drawn := w.drawn + 1 } (lookH H) := by
  have hE : Ext X w (lookH H) X { w with drawn := w.drawn + 1 } := ⟨rfl, rfl, rfl, Nat.le_refl _, fun _ _ h => h, fun _ _ h => h, fun _ _ _ => rfl, fun _ _ h => h, fun _ h _ => h, fun _ c _ f h => ⟨c, f, h, rfl⟩⟩
  exact ⟨⟨h.sr.ext hE, ⟨h.rel.blk, h.rel.inj, h.rel.lt, h.rel.gl.ext hE⟩, h.dom, h.defers⟩, { toExt := hE, rel := ⟨h.rel.blk, h.rel.inj, h.rel.lt, h.rel.gl.ext hE⟩, nl := fun b hb => .inr hb }⟩
theorem tab_str {P : Program} {X : Cr} {w : World} {T : List V} {H : Heap} {a : Act} (h : StR P X w T H a) (slots : List Nat) : StR P X w (tabV T.length (onlyV T slots)) H a := by
  refine ⟨⟨by simpa [tabV] using h.sr.len, fun t v ht => ?_⟩, h.rel, h.dom, h.defers⟩
  have htl : t < T.length := by have := (List.getElem?_eq_some_iff.1 ht).1; simpa [tabV] using this
  simp only [tabV] at ht
  rw [List.getElem?_map, List.getElem?_range htl] at ht
  simp only [Option.map_some, Option.some.injEq] at ht
  obtain ⟨x, hx, hv⟩ := h.sr.at_ t T[t] (List.getElem?_eq_getElem htl)
  refine ⟨x, hx, ?_⟩
  have : ∀ (l : List Nat), ((onlyV T l).lookup t).getD .any = T[t] ∨ ((onlyV T l).lookup t).getD .any = .any := by
    intro l
    induction l with
    | nil => exact .inr rfl
    | cons s l ih =>
      simp only [onlyV, List.map_cons, List.lookup_cons]
      by_cases hs : t = s
      · subst hs
        left
        simp [List.getElem?_eq_getElem htl]
      · have : (t == s) = false := by simpa using hs
        simp only [this]
        exact ih
  rcases this slots with h1 | h1
  · rw [← ht, h1]; exact hv
  · rw [← ht, h1]; exact .imm _ _ (.any _)
def Post (P : Program) (X : Cr) (w : World) (st : St) (ex : Ex) (st' : St) (Q : Exit → Act → World → Prop) : Prop :=
  ∀ X' w' a', StR P X' w' st'.T st'.H a' → Step X w (lookH st.H) X' w' (lookH st'.H) → Q ex.to a' w'
theorem outB_look {m : List Nat} {H H' : Heap} (hin : inH H (backUpd [] (backOf m H.length) m H') = true) :
    lookH (outB m H H') = newL (updL (lookH H) (backUpd [] (backOf m H.length) m H')) H.length ((H'.drop m.length).map (·.map (renB (backOf m H.length) true))) ∧ (outB m H H').length = H.length + (H'.length - m.length) := by
  obtain ⟨hp1, hp2⟩ := lookH_putH _ H hin
  exact ⟨by unfold outB; rw [lookH_new, hp1, hp2], by unfold outB; rw [List.length_append, hp2]; simp⟩
theorem frame_in {P : Program} {X : Cr} {w : World} {T : List V} {H : Heap} {a : Act} (h : StR P X w T H a) {m : List Nat} (hm : m.Nodup) (slots : List Nat) : StR P (X.sub m) w (inT T.length m slots T) (inB m H) a := by
  have ht := tab_str h slots
  refine ⟨⟨by unfold inT; rw [renL_len]; exact ht.sr.len, fun t v hv => ?_⟩, sub_rel h.rel hm, fun id hid => ?_, h.defers⟩
  · unfold inT at hv
    obtain ⟨u, hu, rfl⟩ := renL_get' hv
    obtain ⟨x, hx, hvx⟩ := ht.sr.at_ t u hu
    exact ⟨x, hx, ren_vr (fun id j p hj hp => by simp [Cr.sub, indexOf_some hm hj, hp]) (fun id j p hj hp => by simp [Cr.sub, indexOf_some hm hj, hp]) hvx⟩
  · have hmj : m[id]? = none := List.getElem?_eq_none (by simpa [inB] using hid)
    exact ⟨by simp [Cr.sub, hmj], by simp [Cr.sub, hmj]⟩
theorem frame_back {P : Program} {X : Cr} {w : World} {T : List V} {H : Heap} {a : Act} (h : StR P X w T H a) {m : List Nat} {H' : Heap} (hok : frameOk m H H' = true) {X2 : Cr} {w2 : World} {T' : List V} {a2 : Act} (hr : StR P X2 w2 T' H' a2)
    (hs : Step (X.sub m) w (lookH (inB m H)) X2 w2 (lookH H')) (hcl : Clean (inB m H) H') : ∃ X', StR P X' w2 (outT m H T') (outB m H H') a2 ∧ Step X w (lookH H) X' w2 (lookH (outB m H H')) := by
  simp only [frameOk, Bool.and_eq_true] at hok
  obtain ⟨⟨⟨h1, h2⟩, h3⟩, h4⟩ := hok
  have hm := nodupB_spec h1
  have hlen := Nat.le_of_ble_eq_true h3
  have hv : X2.vr w2 (.tup T') (.tuple a2.tmps) := by
    refine .tup _ _ hr.sr.len fun j u x hj hx => ?_
    obtain ⟨y, hy, hvy⟩ := hr.sr.at_ j u hj
    rw [hx] at hy
    cases hy
    exact hvy
  obtain ⟨X', s1, s2, s3⟩ := call_back h.rel hm (fun id hid => List.all_eq_true.1 h2 id hid) hs hcl hlen hv hr.dom (nid := H.length) (fun k hk _ => h.dom k hk)
  obtain ⟨g1, g2⟩ := outB_look h4
  refine ⟨X', ⟨⟨by unfold outT; rw [renL_len]; exact hr.sr.len, fun t v ht => ?_⟩, by rw [g1]; exact s1.rel, fun id hid => ?_, hr.defers⟩, by rw [g1]; exact s1⟩
  · obtain ⟨xs, hxs, hxl, hxr⟩ := vr_tup (cs := renL (backOf m H.length) T') (by simpa only [ren] using s2)
    cases hxs
    have ht' : (renL (backOf m H.length) T')[t]? = some v := ht
    have htl : t < a2.tmps.size := by rw [← hxl]; exact (List.getElem?_eq_some_iff.1 ht').1
    exact ⟨_, Array.getElem?_eq_getElem htl, hxr t v _ ht' (Array.getElem?_eq_getElem htl)⟩
  · rw [g2] at hid
    exact s3 id (h.dom id (by omega)) (by omega)
theorem frame_clean {m : List Nat} {H H' : Heap} : Clean H (outB m H H') := fun j B hj hB hd => by
  unfold outB at hB
  rw [List.getElem?_append_left (by rw [putH_len]; exact hj)] at hB
  exact putH_clean _ H (backUpd_marked _ _ _) j B hB hd
theorem cutAt_some {ok : List V → Heap → Ex → List V → Heap → Prop} {st : St} {slots m : List Nat} {e : Ex} {kv : List (Nat × V)} {H' : Heap} {ps : List Ev} {ex : Ex} {st' : St} (h : cutAt ok st slots m e kv H' ps = some (ex, st')) :
    frameOk m st.H H' = true ∧ ex = e ∧ st' = ⟨outT m st.H (tabV st.T.length kv), outB m st.H H', ps, st.ob ∧ ok (inT st.T.length m slots st.T) (inB m st.H) e (tabV st.T.length kv) H'⟩ := by
  unfold cutAt at h
  split at h
  · rename_i hf; cases h; exact ⟨hf, rfl, rfl⟩
  · cases h
theorem frame_len {m : List Nat} {H H' : Heap} (hok : frameOk m H H' = true) : H.length ≤ (outB m H H').length := by
  simp only [frameOk, Bool.and_eq_true] at hok
  rw [(outB_look hok.2).2]; omega
theorem frame_nodup {m : List Nat} {H H' : Heap} (hok : frameOk m H H' = true) : m.Nodup := by
  simp only [frameOk, Bool.and_eq_true] at hok
  exact nodupB_spec hok.1.1.1
theorem exec_ok {E : Env} (hE : EnvOk E) : ∀ (n : Nat),
    (∀ (c : Code) (st : St) (ex : Ex) (st' : St), exec E n c st = some (ex, st') → (st'.ob → st.ob) ∧ (st'.ob → Clean st.H st'.H ∧ st.H.length ≤ st'.H.length ∧ ∀ X w a Q, StR E.P X w st.T st.H a → Post E.P X w st ex st' Q → c.wp E.P Q a w)) ∧
    (∀ (c : Code) (st : St) (ex : Ex) (st' : St), iter E n c st = some (ex, st') → (st'.ob → st.ob) ∧ (st'.ob → Clean st.H st'.H ∧ st.H.length ≤ st'.H.length ∧ ∃ k, ∀ X w a Q, StR E.P X w st.T st.H a → Post E.P X w st ex st' Q → Code.rounds E.P c Q k a w)) := by
  intro n
  induction n with
  | zero => exact ⟨fun c st ex st' h => by simp [exec] at h, fun c st ex st' h => by simp [iter] at h⟩
  | succ n ih =>
    obtain ⟨ih1, ih2⟩ := ih
    refine ⟨fun c st ex st' h => ?_, fun c st ex st' h => ?_⟩
    · cases c with
      | skip =>
        simp only [exec] at h; cases h
        exact ⟨fun h => h, fun _ => ⟨Clean.refl _, Nat.le_refl _, fun X w a Q hr hq => wp_skip (hq X w a hr (Step.refl hr.rel))⟩⟩
      | label l =>
        simp only [exec] at h; cases h
        exact ⟨fun h => h, fun _ => ⟨Clean.refl _, Nat.le_refl _, fun X w a Q hr hq => wp_label (hq X w a hr (Step.refl hr.rel))⟩⟩
      | ret =>
        simp only [exec] at h; cases h
        exact ⟨fun h => h, fun _ => ⟨Clean.refl _, Nat.le_refl _, fun X w a Q hr hq => wp_ret (hq X w a hr (Step.refl hr.rel))⟩⟩
      | exit id =>
        simp only [exec] at h; cases h
        exact ⟨fun h => h, fun _ => ⟨Clean.refl _, Nat.le_refl _, fun X w a Q hr hq => wp_exit (hq X w a hr (Step.refl hr.rel))⟩⟩
      | region id ops d =>
        cases d with
        | false =>
          simp only [exec] at h
          split at h
          · rename_i st1 hr
            cases h
            refine ⟨runOps_ob _ _ _ _ hr, fun ho => ⟨(runOps_clean _ _ _ _ hr).1, (runOps_clean _ _ _ _ hr).2, fun X w a Q hst hq => wp_region ?_⟩⟩
            have := runOps_ok hE ops.toList 0 st st' (by simp) hr ho X w a Q hst hq
            rwa [List.range_eq_range', show ops.size = ops.toList.length by simp]
          · cases h
        | true =>
          simp only [exec] at h
          split at h
          · rename_i st1 log hr
            split at h
            · rename_i hok
              cases h
              refine ⟨fun ho => by have := runDrawn_ob _ _ _ _ _ hr ho; exact this, fun ho => ?_⟩
              obtain ⟨hc1, hc2⟩ := runDrawn_clean (n0 := st.H.length) (Nat.le_refl _) _ _ _ _ _ hr
              dsimp only at hc1 hc2
              refine ⟨fun j B hj hB hd => ?_, by rw [hc2, List.length_append]; omega, fun X w a Q hst hq => wp_region_any hE.mixed.1 ?_⟩
              · have := hc1 j B hj hB hd
                rwa [List.getElem?_append_left hj] at this
              · obtain ⟨h1, h2⟩ := hst.drew
                exact drawn_ok hE hr hok trivial ho h1 fun X' w' a' hr' hs' => hq X' w' a' hr' (Step.trans hst.rel h2 hs')
            · rename_i p qs hok
              split at h
              · cases h
                refine ⟨fun ho => by have := runDrawn_ob _ _ _ _ _ hr ho.1; exact this, fun ho => ?_⟩
                obtain ⟨hc1, hc2⟩ := runDrawn_clean (n0 := st.H.length) (Nat.le_refl _) _ _ _ _ _ hr
                dsimp only at hc1 hc2
                refine ⟨fun j B hj hB hd => ?_, by rw [hc2, List.length_append]; omega, fun X w a Q hst hq => wp_region_any hE.mixed.1 ?_⟩
                · have := hc1 j B hj hB hd
                  rwa [List.getElem?_append_left hj] at this
                · obtain ⟨h1, h2⟩ := hst.drew
                  exact drawn_ok hE hr hok ho.2 ho.1 h1 fun X' w' a' hr' hs' => hq X' w' a' hr' (Step.trans hst.rel h2 hs')
              · cases h
            · cases h
          · cases h
      | seq x y =>
        simp only [exec] at h
        split at h
        · rename_i st1 h1
          obtain ⟨p1, p2⟩ := ih1 x st _ st1 h1
          split at h
          · rename_i slots ids e kv H' ps hps
            obtain ⟨hf, rfl, rfl⟩ := cutAt_some h
            refine ⟨fun ho => p1 ho.1, fun ho => ?_⟩
            obtain ⟨c1, l1, w1⟩ := p2 ho.1
            obtain ⟨c2, l2, w2⟩ := hE.code _ _ _ _ _ _ ho.2
            refine ⟨c1.trans frame_clean l1, Nat.le_trans l1 (frame_len hf), fun X w a Q hr hq => wp_seq (w1 X w a _ hr fun X' w' a' hr' hs' => ?_)⟩
            show y.wp E.P Q a' w'
            refine w2 _ w' a' Q (frame_in hr' (frame_nodup hf) slots) fun X2 w2 a2 hr2 hs2 => ?_
            obtain ⟨X3, g1, g2⟩ := frame_back hr' hf hr2 hs2 c2
            exact hq X3 w2 a2 g1 (Step.trans hr.rel hs' g2)
          · obtain ⟨q1, q2⟩ := ih1 y st1 ex st' h
            refine ⟨fun ho => p1 (q1 ho), fun ho => ?_⟩
            obtain ⟨c1, l1, w1⟩ := p2 (q1 ho)
            obtain ⟨c2, l2, w2⟩ := q2 ho
            refine ⟨c1.trans c2 l1, by omega, fun X w a Q hr hq => wp_seq (w1 X w a _ hr fun X' w' a' hr' hs' => ?_)⟩
            show y.wp E.P Q a' w'
            exact w2 X' w' a' Q hr' fun X2 w2 a2 hr2 hs2 => hq X2 w2 a2 hr2 (Step.trans hr.rel hs' hs2)
        · rename_i hne
          obtain ⟨p1, p2⟩ := ih1 x st ex st' h
          refine ⟨p1, fun ho => ?_⟩
          obtain ⟨c1, l1, w1⟩ := p2 ho
          refine ⟨c1, l1, fun X w a Q hr hq => wp_seq (w1 X w a _ hr fun X' w' a' hr' hs' => ?_)⟩
          have := hq X' w' a' hr' hs'
          cases ex with
          | normal => exact absurd h (by intro h; exact hne _ h)
          | exit id => exact this
          | ret => exact this
      | cond c x y =>
        simp only [exec] at h
        split at h
        · rename_i s t hc
          split at h
          · rename_i ps ob hk
            obtain ⟨p1, p2⟩ := ih1 x _ ex st' h
            refine ⟨fun ho => (ask_ob hk (p1 ho)).1, fun ho => ?_⟩
            obtain ⟨c1, l1, w1⟩ := p2 ho
            have ht := (ask_ob hk (p1 ho)).2
            refine ⟨c1, l1, fun X w a Q hr hq => wp_cond_true ?_ (w1 X w a Q hr hq)⟩
            rw [vr_bool (ev_vr hr.sr hc), ht]
          · rename_i ps ob hk
            obtain ⟨p1, p2⟩ := ih1 y _ ex st' h
            refine ⟨fun ho => (ask_ob hk (p1 ho)).1, fun ho => ?_⟩
            obtain ⟨c1, l1, w1⟩ := p2 ho
            have ht := (ask_ob hk (p1 ho)).2
            refine ⟨c1, l1, fun X w a Q hr hq => wp_cond_false ?_ (w1 X w a Q hr hq)⟩
            rw [vr_bool (ev_vr hr.sr hc), ht]
          · cases h
        · cases h
      | block id c =>
        simp only [exec] at h
        split at h
        · rename_i j st1 h1
          obtain ⟨p1, p2⟩ := ih1 c st _ st1 h1
          split at h
          · rename_i hj
            subst hj
            cases h
            refine ⟨p1, fun ho => ?_⟩
            obtain ⟨c1, l1, w1⟩ := p2 ho
            refine ⟨c1, l1, fun X w a Q hr hq => wp_block (w1 X w a _ hr fun X' w' a' hr' hs' => ?_)⟩
            show if _ then _ else _
            rw [if_pos rfl]
            exact hq X' w' a' hr' hs'
          · rename_i hj
            cases h
            refine ⟨p1, fun ho => ?_⟩
            obtain ⟨c1, l1, w1⟩ := p2 ho
            refine ⟨c1, l1, fun X w a Q hr hq => wp_block (w1 X w a _ hr fun X' w' a' hr' hs' => ?_)⟩
            show if _ then _ else _
            rw [if_neg hj]
            exact hq X' w' a' hr' hs'
        · rename_i hne
          obtain ⟨p1, p2⟩ := ih1 c st ex st' h
          refine ⟨p1, fun ho => ?_⟩
          obtain ⟨c1, l1, w1⟩ := p2 ho
          refine ⟨c1, l1, fun X w a Q hr hq => wp_block (w1 X w a _ hr fun X' w' a' hr' hs' => ?_)⟩
          have := hq X' w' a' hr' hs'
          cases ex with
          | normal => exact this
          | exit j => exact absurd h (by intro h; exact hne _ _ h)
          | ret => exact this
      | loop c =>
        simp only [exec] at h
        split at h
        · rename_i slots ids e kv H' ps hps
          obtain ⟨hf, rfl, rfl⟩ := cutAt_some h
          refine ⟨fun ho => ho.1, fun ho => ?_⟩
          obtain ⟨c1, l1, k, w1⟩ := hE.loop _ _ _ _ _ _ ho.2
          refine ⟨frame_clean, frame_len hf, fun X w a Q hr hq => wp_loop_rounds k (w1 _ w a Q (frame_in hr (frame_nodup hf) slots) fun X2 w2 a2 hr2 hs2 => ?_)⟩
          obtain ⟨X3, g1, g2⟩ := frame_back hr hf hr2 hs2 c1
          exact hq X3 w2 a2 g1 g2
        · obtain ⟨p1, p2⟩ := ih2 c st ex st' h
          refine ⟨p1, fun ho => ?_⟩
          obtain ⟨c1, l1, k, w1⟩ := p2 ho
          exact ⟨c1, l1, fun X w a Q hr hq => wp_loop_rounds k (w1 X w a Q hr hq)⟩
      | rangeFunc => simp [exec] at h
      | goto => simp [exec] at h
      | scope => simp [exec] at h
      | refuse => simp [exec] at h
    · simp only [iter] at h
      split at h
      · rename_i st1 h1
        obtain ⟨p1, p2⟩ := ih1 c st _ st1 h1
        split at h
        · rename_i slots ids e kv H' ps hps
          obtain ⟨hf, rfl, rfl⟩ := cutAt_some h
          refine ⟨fun ho => p1 ho.1, fun ho => ?_⟩
          obtain ⟨c1, l1, w1⟩ := p2 ho.1
          obtain ⟨c2, l2, k, w2⟩ := hE.loop _ _ _ _ _ _ ho.2
          refine ⟨c1.trans frame_clean l1, Nat.le_trans l1 (frame_len hf), k + 1, fun X w a Q hr hq => ?_⟩
          rw [rounds_succ]
          refine w1 X w a _ hr fun X' w' a' hr' hs' => ?_
          show Code.rounds E.P c Q k a' w'
          refine w2 _ w' a' Q (frame_in hr' (frame_nodup hf) slots) fun X2 w2 a2 hr2 hs2 => ?_
          obtain ⟨X3, g1, g2⟩ := frame_back hr' hf hr2 hs2 c2
          exact hq X3 w2 a2 g1 (Step.trans hr.rel hs' g2)
        · obtain ⟨q1, q2⟩ := ih2 c st1 ex st' h
          refine ⟨fun ho => p1 (q1 ho), fun ho => ?_⟩
          obtain ⟨c1, l1, w1⟩ := p2 (q1 ho)
          obtain ⟨c2, l2, k, w2⟩ := q2 ho
          refine ⟨c1.trans c2 l1, by omega, k + 1, fun X w a Q hr hq => ?_⟩
          rw [rounds_succ]
          refine w1 X w a _ hr fun X' w' a' hr' hs' => ?_
          show Code.rounds E.P c Q k a' w'
          exact w2 X' w' a' Q hr' fun X2 w2 a2 hr2 hs2 => hq X2 w2 a2 hr2 (Step.trans hr.rel hs' hs2)
      · rename_i hne
        obtain ⟨p1, p2⟩ := ih1 c st ex st' h
        refine ⟨p1, fun ho => ?_⟩
        obtain ⟨c1, l1, w1⟩ := p2 ho
        refine ⟨c1, l1, 1, fun X w a Q hr hq => ?_⟩
        rw [rounds_succ]
        refine w1 X w a _ hr fun X' w' a' hr' hs' => ?_
        have := hq X' w' a' hr' hs'
        cases ex with
        | normal => exact absurd h (by intro h; exact hne _ h)
        | exit j => exact this
        | ret => exact this
end Go.Im
