/- The ideal machine: a region in the order of the text. -/
import Derived.Test.YtalnancndjgmgaaGreatDoorImLoc
import Derived.Orders
namespace Go.Im
set_option linter.unusedVariables false
theorem putT_len (T : List V) (d : Option Tmp) (v : V) : (putT T d v).length = T.length := by cases d <;> simp [putT]
theorem put_sr {X : Cr} {w : World} {T : List V} {a : Act} (hs : SR X w T a) {d : Option Tmp} {v : V} {x : Value} (hv : X.vr w v x) : SR X w (putT T d v) (a.put d x) := by
  cases d with
  | none => exact hs
  | some d =>
    refine ⟨by simpa [putT, Act.put] using hs.len, fun t u ht => ?_⟩
    simp only [putT, List.getElem?_set] at ht
    simp only [Act.put]
    split at ht
    · subst_vars
      split at ht
      · rename_i hlt
        cases ht
        exact ⟨x, by rw [Array.getElem?_setIfInBounds_self_of_lt (by rw [← hs.len]; exact hlt)], hv⟩
      · cases ht
    · rename_i hne
      obtain ⟨y, hy, hvy⟩ := hs.at_ t u ht
      exact ⟨y, by rw [Array.getElem?_setIfInBounds_ne hne]; exact hy, hvy⟩
theorem SR.ext {X X' : Cr} {w w' : World} {l : Look} (hE : Ext X w l X' w') {T : List V} {a : Act} (hs : SR X w T a) : SR X' w' T a :=
  ⟨hs.len, fun t v ht => let ⟨x, hx, hv⟩ := hs.at_ t v ht; ⟨x, hx, hv.ext hE⟩⟩
theorem put_defers (a : Act) (d : Option Tmp) (x : Value) : (a.put d x).defers = a.defers := by cases d <;> rfl
theorem wanted_ok {X : Cr} {w : World} {T : List V} {a : Act} (hs : SR X w T a) {ops : Array Oper} {o : Oper} {ps ps' : List Ev} {ob ob' : Prop} {c : Bool} (h : wantedV ops T o ps ob = some (c, ps', ob')) (ho : ob') :
    ob ∧ Region.wanted o (yielded ops a.tmps) = c := by
  unfold wantedV at h
  unfold Region.wanted
  split at h
  · rename_i hg; cases h; rw [hg]; exact ⟨ho, rfl⟩
  · rename_i j want hg
    rw [hg]
    split at h
    · rename_i s b hb
      split at h
      · rename_i c' ps1 ob1 hk
        cases h
        obtain ⟨h1, h2⟩ := ask_ob hk ho
        obtain ⟨t, ht, hb'⟩ := Option.bind_eq_some_iff.1 hb
        obtain ⟨x, hx, hv⟩ := hs.at_ t _ hb'
        rw [vr_bool hv] at hx
        refine ⟨h1, ?_⟩
        simp only [yielded, ht, Option.bind_some, hx, ← h2]
        cases b <;> cases want <;> rfl
      · cases h
    · rename_i hb
      cases h
      obtain ⟨t, ht, hb'⟩ := Option.bind_eq_some_iff.1 hb
      obtain ⟨x, hx, hv⟩ := hs.at_ t _ hb'
      obtain ⟨xs, rfl, _, _⟩ := vr_tup hv
      refine ⟨ho, ?_⟩
      simp only [yielded, ht, Option.bind_some, hx]
      cases want <;> rfl
    · cases h
theorem lookH_set (H : Heap) (id : Nat) (b : Option Blk) (h : id < H.length) : lookH (H.set id b) = fun i => if i = id then b else lookH H i := by
  funext i
  simp only [lookH, List.getElem?_set]
  by_cases hi : id = i
  · subst hi; simp [h]
  · rw [if_neg hi, if_neg (fun h => hi h.symm)]
theorem lookH_putH : ∀ (upd : List (Nat × Option Blk)) (H : Heap), inH H upd = true → lookH (putH H upd) = updL (lookH H) upd ∧ (putH H upd).length = H.length
  | [], H, _ => ⟨rfl, rfl⟩
  | (id, b) :: upd, H, h => by
    simp only [inH, List.all_cons, Bool.and_eq_true, decide_eq_true_eq] at h
    obtain ⟨h1, h2⟩ := lookH_putH upd (H.set id b) (by simpa [inH] using h.2)
    simp only [putH, updL]
    rw [h1, lookH_set H id b h.1]
    exact ⟨rfl, by rw [h2]; simp⟩
theorem lookH_new (H : Heap) (new : List (Option Blk)) : lookH (H ++ new) = newL (lookH H) H.length new := by
  funext i
  simp only [lookH, newL]
  by_cases h : H.length ≤ i
  · rw [if_pos h, List.getElem?_append_right h, List.getElem?_eq_none h]
    cases new[i - H.length]? <;> rfl
  · rw [if_neg h, List.getElem?_append_left (by omega)]
theorem lookH_none {H : Heap} {k : Nat} (h : H.length ≤ k) : lookH H k = none := by simp only [lookH]; rw [List.getElem?_eq_none h]
theorem runOps_ob {E : Env} {ops : Array Oper} : ∀ (rest : List Oper) (j : Nat) (st st' : St), runOps E ops j rest st = some st' → st'.ob → st.ob
  | [], j, st, st', h, ho => by simp only [runOps] at h; cases h; exact ho
  | o :: rest, j, st, st', h, ho => by
    simp only [runOps] at h
    split at h
    · rename_i hw
      split at h
      · exact wantedV_ob hw (runOps_ob rest _ _ st' h ho)
      · split at h
        · rename_i hr
          split at h
          · exact wantedV_ob hw (iopS_ob hr (runOps_ob rest _ _ st' h ho))
          · cases h
        · cases h
    · rename_i hw; exact wantedV_ob hw (runOps_ob rest _ _ st' h ho)
    · cases h
theorem defer_does {E : Env} (hE : EnvOk E) {X : Cr} {w0 : World} {T : List V} {a : Act} (hs : SR X w0 T a) {o : Oper} (h : deferOf E T o = true) :
    ∃ d, (∀ w : World, (execOp a.eval o).run E.P w = .ok (.defer d) w) ∧ QuietD E.P d := by
  unfold deferOf at h
  split at h
  · rename_i c ho
    split at h
    · rename_i f hf
      split at h
      · rename_i args g first captured ha hk
        simp only [Bool.and_eq_true] at h
        obtain ⟨hbody, hq⟩ := h
        obtain ⟨xs, ys, hfe, hl1, hl2, hr1, hr2⟩ := vr_fn (ev_vr hs hk)
        obtain ⟨ha1, ha2⟩ := evs_vr hs ha
        unfold isBody at hbody
        split at hbody
        · rename_i fn hfn
          simp only [Bool.and_eq_true, bne_iff_ne, ne_eq] at hbody
          obtain ⟨bd, hbd⟩ := Option.isSome_iff_exists.1 hbody.1
          refine ⟨⟨.fn (.func g) ys, xs ++ c.args.map a.eval⟩, fun w => ?_, .func g, ys, g, xs ++ c.args.map a.eval ++ ys, rfl, fun w => ?_, fun w => ?_⟩
          · simp [execOp, ho, resolve, hf, hfe, Deferred.ofValue]
          · simp [invoke, callFunc, hfn, hbody.2, hbd]
          · refine hE.mixed.2 g _ hq _ w ?_
            simp at ha1
            simp
            omega
        · cases hbody
      · cases h
    · cases h
  · cases h
theorem runOps_ok {E : Env} (hE : EnvOk E) {ops : Array Oper} : ∀ (rest : List Oper) (k : Nat) (st st' : St), ops.toList.drop k = rest → runOps E ops k rest st = some st' → st'.ob →
    ∀ (X : Cr) (w : World) (a : Act) (Q : Exit → Act → World → Prop), StR E.P X w st.T st.H a →
      (∀ X' w' a', StR E.P X' w' st'.T st'.H a' → Step X w (lookH st.H) X' w' (lookH st'.H) → Q .normal a' w') → wpOps E.P ops Q (List.range' k rest.length) a w
  | [], k, st, st', _, h, ho, X, w, a, Q, hr, hQ => by
    simp only [runOps] at h
    cases h
    simp only [List.length_nil, List.range'_zero, wpOps]
    exact hQ X w a hr (Step.refl hr.rel)
  | o :: rest, k, st, st', hd, h, ho, X, w, a, Q, hst, hQ => by
    have hk : ops[k]? = some o := by
      have : ops.toList[k]? = some o := by
        have := congrArg (fun l => l[0]?) hd
        simpa [List.getElem?_drop] using this
      simpa using this
    have hd' : ops.toList.drop (k + 1) = rest := by
      have := congrArg (fun l => l.drop 1) hd
      simpa [List.drop_drop, Nat.add_comm] using this
    simp only [List.length_cons, List.range'_succ, wpOps, hk]
    simp only [runOps] at h
    split at h
    · rename_i ps ob hw
      split at h
      · rename_i hdf
        have hob := runOps_ob rest _ _ st' h ho
        dsimp only at hob
        rw [(wanted_ok hst.sr hw hob).2, if_pos rfl]
        obtain ⟨d, hd1, hd2⟩ := defer_does hE hst.sr hdf
        refine .inl ?_
        unfold Oper.wp
        rw [hd1 w]
        have hsr : SR X w st.T { a with defers := d :: a.defers } := ⟨hst.sr.len, hst.sr.at_⟩
        refine runOps_ok hE rest (k + 1) _ st' hd' h ho X w _ Q ⟨put_sr hsr (.imm _ _ (.tup [] #[] rfl fun j v x h => by simp at h)), hst.rel, hst.dom, ?_⟩ hQ
        rw [put_defers]
        intro d' hd'
        rcases List.mem_cons.1 hd' with rfl | hm
        · exact hd2
        · exact hst.defers d' hm
      · split at h
        · rename_i r hr
          split at h
          · rename_i hin
            have hob := runOps_ob rest _ _ st' h ho
            dsimp only at hob
            have hob1 := iopS_ob hr hob
            rw [(wanted_ok hst.sr hw hob1).2, if_pos rfl]
            have hfresh : ∀ k, st.H.length ≤ k → k < st.H.length + r.new.length → X.ρ.no k := fun i hi _ => hst.dom i hi
            refine .inl ((iopS_does hE hst.rel hst.sr hr hob hfresh).2 _ _ fun X' w' x hg => ?_)
            obtain ⟨hp1, hp2⟩ := lookH_putH r.upd st.H hin
            have hl : lookH (putH st.H r.upd ++ r.new) = newL (updL (lookH st.H) r.upd) st.H.length r.new := by rw [lookH_new, hp1, hp2]
            refine runOps_ok hE rest (k + 1) _ st' hd' h ho X' w' _ Q ⟨put_sr (hst.sr.ext hg.step.toExt) hg.val, ?_, fun id hp => ?_, by rw [put_defers]; exact hst.defers⟩ fun X2 w2 a2 hr2 hs2 => hQ X2 w2 a2 hr2 ?_
            · dsimp only; rw [hl]; exact hg.step.rel
            · rw [List.length_append, hp2] at hp
              exact hg.dom id (hst.dom id (by omega)) (by omega)
            · refine Step.trans hst.rel hg.step ?_
              dsimp only at hs2
              rw [hl] at hs2
              exact hs2
          · cases h
        · cases h
    · rename_i ps ob hw
      have hob := runOps_ob rest _ _ st' h ho
      dsimp only at hob
      rw [(wanted_ok hst.sr hw hob).2]
      simp only [Bool.false_eq_true, if_false]
      exact runOps_ok hE rest (k + 1) _ st' hd' h ho X w _ Q ⟨put_sr hst.sr (.imm _ _ (.tup [] #[] rfl fun j v x h => by simp at h)), hst.rel, hst.dom, by rw [put_defers]; exact hst.defers⟩ hQ
    · cases h
end Go.Im
