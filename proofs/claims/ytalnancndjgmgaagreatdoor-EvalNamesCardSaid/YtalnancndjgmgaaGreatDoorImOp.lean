/- The ideal machine: every operation. -/
import Derived.Test.YtalnancndjgmgaaGreatDoorImCall
import Derived.Lib.Builder
import Derived.Lib.UnsafeStr
import Derived.Laws.BytesString
namespace Go.Im
set_option linter.unusedVariables false
set_option linter.unusedSimpArgs false
theorem wp_val {P : Program} {o : Oper} {a : Act} {w w' : World} {K : Act → World → Prop} {Q : Exit → Act → World → Prop} {z : Value} (h : (execOp a.eval o).run P w = .ok (.value z) w') (hk : K (a.put o.dst z) w') : o.wp P a w K Q := by
  unfold Oper.wp; rw [h]; exact hk
theorem wp_skp {P : Program} {o : Oper} {a : Act} {w w' : World} {K : Act → World → Prop} {Q : Exit → Act → World → Prop} (h : (execOp a.eval o).run P w = .ok .skip w') (hk : K (a.put o.dst undef) w') : o.wp P a w K Q := by
  unfold Oper.wp; rw [h]; exact hk
/-- All that is said of an operation. -/
def Does (E : Env) (X : Cr) (w : World) (a : Act) (o : Oper) (l : Look) (nid : Nat) (r : Out) (ob : Prop) : Prop :=
  ob ∧ ∀ (K : Act → World → Prop) (Q : Exit → Act → World → Prop), (∀ X' w' x, Good X w l nid r X' w' x → K (a.put o.dst x) w') → o.wp E.P a w K Q
theorem does_same {E : Env} {X : Cr} {w : World} {a : Act} {o : Oper} {l : Look} (hl : RelL X w l) {nid : Nat} {r : Out} {ob : Prop} (hob : ob) (hu : r.upd = []) (hn : r.new = []) {z : Value} (hz : (execOp a.eval o).run E.P w = .ok (.value z) w) (hv : X.vr w r.v z) : Does E X w a o l nid r ob :=
  ⟨hob, fun K Q hK => wp_val hz (hK X w z (good_same hl hu hn hv))⟩
theorem ok0_some {v : V} {ps : List Ev} {ob : Prop} {r : Out} (h : ok0 v ps ob = some r) : r = ⟨v, [], [], [], ps, ob⟩ := by cases h; rfl
theorem len_run {P : Program} {X : Cr} {w : World} {l : Look} (hl : RelL X w l) {ts : Array TypeId} {ty : TypeId} {d : TypeDesc} (hu : (ts[0]?).bind P.underlying = some d) {v : V} {x : Value} {s : Bool} {n : Nat} (h : lenV l d v = some (s, n)) (hx : X.vr w v x) :
    (Builtin.len_ ts ty #[x]).run P w = .ok (.int .i64 n) w := by
  obtain ⟨t, h0, hu⟩ := Option.bind_eq_some_iff.1 hu
  unfold lenV at h
  split at h
  · cases h
    rw [vr_str hx]
    simp [Builtin.len_, h0, run_underlying hu, goInt]
  · cases h
    cases vr_isl hx with
    | isl0 => simp [Builtin.len_, h0, run_underlying hu, goInt]
    | isl => simp [Builtin.len_, h0, run_underlying hu, goInt]
  · cases h
    rw [vr_nils hx]
    simp [Builtin.len_, h0, run_underlying hu, goInt]
  · cases h
    obtain ⟨b, s0, sz, o, cap, c, e', f, hρ, hle, ho, hb, hcc, rfl⟩ := vr_msl hx
    simp [Builtin.len_, h0, run_underlying hu, goInt]
  · split at h
    · rename_i B hB
      obtain ⟨hB, hlst⟩ := lstOf_spec hB
      cases h
      have hn := vr_osl hx
      rcases hl.blk _ B hB with hg | hr
      · rw [hg.2.2.2.1] at hn
        cases hn
        rw [hg.2.1]
        simp [Builtin.len_, h0, run_underlying hu, goInt]
      · obtain ⟨b, s, c, t', hρ, hown, hb, hrow, hty, hls⟩ := hr
        obtain ⟨⟨cap, g1, g2, g3, g4⟩, _⟩ := hls hlst
        rw [hn] at g1
        cases g1
        simp [Builtin.len_, h0, run_underlying hu, goInt]
    · cases h
  · cases h
theorem unary_res {P : Program} {op : UnOp} {u : V} {s : Bool} {a : Value} {k : IntKind} {n : Int} (ha : toScalar u = some (s, a)) (h : pureRun P (Op.unary op a) = some (.int k n)) : inK k n = true := by
  have ha' : (∃ x, a = .bool x) ∨ (∃ k x, a = .int k x) ∨ ∃ x, a = .string x := by
    unfold toScalar at ha; split at ha <;> cases ha <;> simp
  rcases ha' with ⟨x, rfl⟩ | ⟨k1, x, rfl⟩ | ⟨x, rfl⟩ <;> cases op <;> simp [Op.unary, Op.intArith, Op.intBits, stuck, pureRun] at h
  all_goals (obtain ⟨rfl, rfl⟩ := h <;> exact wrap_inK _ _)
theorem min_run {P : Program} {X : Cr} {w : World} (op : Bool) : ∀ {vs : List V} {v v' : V} {x : Value} {xs : List Value}, minV op v vs = some v' → X.vr w v x → vs.length = xs.length → (∀ (j : Nat) (u : V) (y : Value), vs[j]? = some u → xs[j]? = some y → X.vr w u y) →
    ∃ z, (xs.foldlM (if op then Builtin.min2 else Builtin.max2) x).run P w = .ok z w ∧ X.vr w v' z
  | [], v, v', x, xs, h, hx, hl, _ => by
    cases xs with
    | nil => simp only [minV] at h; cases h; exact ⟨x, by simp, hx⟩
    | cons => simp at hl
  | u :: vs, v, v', x, xs, h, hx, hl, hr => by
    cases xs with
    | nil => simp at hl
    | cons y xs =>
      cases v <;> cases u <;> try (simp [minV] at h; done)
      rename_i s k n s' k' m
      have hy := hr 0 (V.int s' k' m) y (by simp) (by simp)
      have hkx := vr_inK hx
      have hky := vr_inK hy
      rw [vr_int hx]
      rw [vr_int hy]
      simp only [minV] at h
      split at h
      case isFalse => cases h
      rename_i hkk
      subst hkk
      obtain ⟨z, hz, hv⟩ := min_run op h (.imm _ _ (.int _ _ _ (by split <;> split <;> assumption))) (by simpa using hl) (fun j u y hj hy => hr (j + 1) u y (by simpa using hj) (by simpa using hy))
      refine ⟨z, ?_, hv⟩
      cases op
      · simpa [Builtin.max2] using hz
      · simpa [Builtin.min2] using hz
theorem part_info {P : Program} {t : TypeId} {e v : V} {off : Nat} (h : partOf P t e off = some v) : (P.info? t).isSome := by
  unfold partOf at h
  cases hu : P.underlying t with
  | none => simp [hu] at h
  | some d => obtain ⟨i, hi⟩ := info_of_underlying hu; simp [hi]
theorem evs_one {T : List V} {os : List Operand} {v : V} (h : evs T os = some [v]) : ∃ o, os = [o] ∧ ev T o = some v := by
  cases os with
  | nil => simp [evs] at h
  | cons o os =>
    simp only [evs] at h
    split at h
    · rename_i u us h1 h2
      simp at h
      obtain ⟨rfl, rfl⟩ := h
      cases os with
      | nil => exact ⟨o, rfl, h1⟩
      | cons p ps =>
        simp only [evs] at h2
        split at h2 <;> simp at h2
    · cases h
theorem evs_two {T : List V} {os : List Operand} {v u : V} (h : evs T os = some [v, u]) : ∃ o p, os = [o, p] ∧ ev T o = some v ∧ ev T p = some u := by
  cases os with
  | nil => simp [evs] at h
  | cons o os =>
    simp only [evs] at h
    split at h
    · rename_i u' us h1 h2
      simp at h
      obtain ⟨rfl, rfl⟩ := h
      obtain ⟨p, rfl, hp⟩ := evs_one h2
      exact ⟨o, p, rfl, h1, hp⟩
    · cases h
theorem evs_cons {T : List V} {os : List Operand} {v : V} {vs : List V} (h : evs T os = some (v :: vs)) : ∃ o os', os = o :: os' ∧ ev T o = some v ∧ evs T os' = some vs := by
  cases os with
  | nil => simp [evs] at h
  | cons o os =>
    simp only [evs] at h
    split at h
    · rename_i u' us h1 h2
      simp at h
      obtain ⟨rfl, rfl⟩ := h
      exact ⟨o, os, rfl, h1, h2⟩
    · cases h
theorem isByte_spec {v : V} (h : isByte v = true) : ∃ s n, v = .int s .u8 n := by
  unfold isByte at h
  split at h
  · exact ⟨_, _, rfl⟩
  · cases h
theorem byte_back {n : Int} (h : inK .u8 n = true) : ((UInt8.ofNat n.toNat).toNat : Int) = n := by
  obtain ⟨h1, h2⟩ := inK_spec.1 h
  have h1' : (0 : Int) ≤ n := h1
  have h2' : n ≤ (255 : Int) := h2
  rw [UInt8.toNat_ofNat']
  omega
theorem shape_of {w : World} {b : Nat} {c : Array Value} {e : TypeId} {f : Nat × Nat} (hb : w.heap[b]? = some (Obj.cells c e f)) : w.shape? b = some (e, c.size) := by
  simp [World.shape?, hb]
theorem liesAt_from {P : Program} {e : TypeId} (hc : P.cellsOf e = 1) (count s n : Nat) (hn : s + n ≤ count) : liesAt P P.depth e count s e n = true := by
  have hd : P.depth = (2 * (P.types.size + Made.depth) + 1) + 1 := rfl
  rw [hd]
  simp only [liesAt, Bool.or_eq_true]
  left
  rw [hd]
  simp [rowAt, hc, hn, sameLayout, Nat.mod_one]
theorem foldl_push : ∀ (l : List UInt8) (acc : ByteArray), l.foldl (fun r b => r.push b) acc = ⟨acc.data ++ l.toArray⟩
  | [], acc => by simp
  | b :: l, acc => by
    rw [List.foldl_cons, foldl_push l]
    apply ByteArray.ext
    simp [ByteArray.push]
/-- Bytes are frozen; their list is nobody's any more. -/
theorem freeze_step {X : Cr} {w : World} {l : Look} (hl : RelL X w l) {id b s : Nat} {B : Blk} {c : Array Value} {t : TypeId} (hB : l id = some B) (hρ : X.ρ id = some (b, s, B.sz)) (hb : w.heap[b]? = some (Obj.cells c t (0, 0))) (n : Nat) :
    Step X w l X (w.freeze ⟨b, s, none⟩ n) (updL l [(id, none)]) := by
  have ho : X.own b := by
    obtain ⟨b', s', c', t', hρ', ho, _⟩ := hl.real hB hρ
    rw [hρ] at hρ'
    cases hρ'
    exact ho
  have hlive : X.live l b := ⟨id, B, s, B.sz, hB, hρ⟩
  by_cases hn : n = 0
  · subst hn
    have : w.freeze ⟨b, s, none⟩ 0 = w := by simp [World.freeze]
    rw [this]
    exact kill_step hl id
  have hat : (w.freeze ⟨b, s, none⟩ n).heap[b]? = some (Obj.cells c t (s, s + n)) := by
    simp [World.freeze, hn, Array.getElem?_modify, hb]
  have hother : ∀ k, k ≠ b → (w.freeze ⟨b, s, none⟩ n).heap[k]? = w.heap[k]? := by
    intro k hk
    simp [World.freeze, hn, Array.getElem?_modify, Ne.symm hk]
  have hE : Ext X w l X (w.freeze ⟨b, s, none⟩ n) := by
    refine ⟨by simp [World.freeze, hn], by simp [World.freeze, hn], by simp [World.freeze, hn], by simp [World.freeze, hn], fun _ _ h => h, fun _ _ h => h, fun k hk hno => ?_, fun _ _ h => h, fun _ h _ => h, fun k d e f hk => ?_⟩
    · refine hother k ?_
      rintro rfl
      exact hno.elim (fun h => h ho) (fun h => h hlive)
    · by_cases hkb : k = b
      · subst hkb
        rw [hb] at hk
        cases hk
        exact ⟨c, _, hat, rfl⟩
      · exact ⟨d, f, by rw [hother k hkb]; exact hk, rfl⟩
  have sub : ∀ i Bi, updL l [(id, none)] i = some Bi → l i = some Bi ∧ i ≠ id := by
    intro i Bi h
    simp only [updL] at h
    split at h
    · cases h
    · exact ⟨h, by assumption⟩
  refine { toExt := hE, rel := ⟨fun i Bi hi => ?_, fun i j Bi Bj p q hi hj => hl.inj i j Bi Bj p q (sub i Bi hi).1 (sub j Bj hj).1, fun k hk => Nat.lt_of_lt_of_le (hl.lt k hk) hE.size, hl.gl.ext hE⟩, nl := fun k ⟨i, Bi, s', z, h, hρ⟩ => .inr ⟨i, Bi, s', z, (sub i Bi h).1, hρ⟩ }
  obtain ⟨h1, h2⟩ := sub i Bi hi
  rcases hl.blk i Bi h1 with hg | hr
  · exact .inl hg
  · refine .inr (hr.ext hE fun b1 s1 z1 hρ1 => ?_)
    have hbne : b1 ≠ b := fun h => h2 (hl.inj i id Bi B _ _ h1 hB hρ1 hρ h)
    obtain ⟨_, _, _, _, hρ2, ho2, _⟩ := hr
    rw [hρ1] at hρ2
    cases hρ2
    exact ⟨ho2, hother b1 hbne⟩
theorem ustr_ts {ts : Array TypeId} {ty pt : TypeId} (h0 : ts[0]? = some pt) (a : Option Addr) (n : Int) : Builtin.unsafeString_ ts ty #[.pointer a, .int .i64 n] = Builtin.unsafeString_ #[pt, pt] ty #[.pointer a, .int .i64 n] := by
  have h1 : (#[pt, pt] : Array TypeId)[0]? = some pt := rfl
  unfold Builtin.unsafeString_
  rw [h0, h1]
theorem ustr_run {P : Program} {X : Cr} {w : World} {l : Look} (hl : RelL X w l) {id : Nat} {B : Blk} (hB : l id = some B) (hlst : B.lst = true) {p : Value} (hp : X.vr w (.osl true id) p) {n : Int} (hk : inK .i64 n = true) (hn : n = (B.es.length : Int)) (hall : B.es.all isByte = true)
    {e : TypeId} (hlty : B.lty = some e) (hsz : B.sz = 1) (hbt : byteT P e = true) {ts : Array TypeId} {ty : TypeId} {pt : TypeId} (h0 : ts[0]? = some pt) (hpt : P.underlying pt = some (.pointer e)) :
    ∃ w', (Builtin.unsafeString_ ts ty #[p, .int .i64 n]).run P w = .ok (.string (textOf B.es)) w' ∧ Step X w l X w' (updL l [(id, none)]) := by
  have hcell : P.cellsOf e = 1 := by
    unfold byteT at hbt
    split at hbt
    · simpa using hbt
    · cases hbt
  obtain ⟨a, n', c', hnn, rfl⟩ := vr_odp hp
  have hdef := ustr_ts (ty := ty) h0
  by_cases he : B.es = []
  · rw [he] at hn ⊢
    simp at hn
    subst hn
    refine ⟨w, ?_, kill_step hl id⟩
    rw [hdef]
    exact Lib.run_unsafeString_none w _ _ _ a
  · rcases hl.blk id B hB with hg | hr
    · exact absurd hg.2.1 he
    · obtain ⟨b, s, c, t', hρ, hown, hb, hrow, hty, hls⟩ := hr
      obtain ⟨⟨cap, g1, g2, g3, g4⟩, g5⟩ := hls hlst
      have := g5 e hlty
      subst this
      rw [hnn] at g1
      cases g1
      subst hn
      have hlen : (B.es.map byteOf).length = B.es.length := List.length_map _
      have hpos : 0 < B.es.length := List.length_pos_iff.2 he
      have hlast : s + B.es.length ≤ c.size := by rw [hsz] at g4; omega
      refine ⟨w.freeze ⟨b, s, none⟩ B.es.length, ?_, freeze_step hl hB hρ hb _⟩
      have hcells : ∀ j x, (B.es.map byteOf)[j]? = some x → w.cell? ((⟨b, s, none⟩ : Addr).add j) = some (.int .u8 x.toNat) := by
        intro j x hj
        rw [List.getElem?_map] at hj
        obtain ⟨v, hv, rfl⟩ := Option.map_eq_some_iff.1 hj
        obtain ⟨s', m, rfl⟩ := isByte_spec (List.all_eq_true.1 hall v (List.mem_of_getElem? hv))
        obtain ⟨y, hy, hvy, _⟩ := (hrow j _ hv).2 0 (.int s' .u8 m) rfl
        rw [vr_int hvy, hsz] at hy
        rw [add_off, cell_of hb]
        have hm := byte_back (vr_inK hvy)
        simp only [Nat.mul_one, Nat.add_zero] at hy
        rw [hy]
        simp only [byteOf]
        rw [hm]
      have hlb := Lib.run_loadBytes (P := P) w (B.es.map byteOf) ⟨b, s, none⟩ .empty hcells
      rw [hlen] at hlb
      have hlies := liesAt_from (P := P) hcell (c.size / P.cellsOf t') s B.es.length (by rw [hcell]; simpa using hlast)
      obtain ⟨_, hk2⟩ := inK_spec.1 hk
      have h63 : ¬ (9223372036854775807 : Int) < (B.es.length : Int) := Int.not_lt.2 hk2
      rw [hdef]
      delta Builtin.unsafeString_ Builtin.unsafeString_.match_3
      dsimp only
      have hsz2 : (#[Value.pointer (some ⟨b, s, none⟩), Value.int .i64 (B.es.length : Int)] : Array Value).size = 2 := rfl
      rw [dif_pos hsz2]
      delta Builtin.unsafeString_._sparseCasesOn_3
      dsimp only [Array.getLit]
      have hmax : IntKind.i64.max = 9223372036854775807 := rfl
      have hneg : ¬ (B.es.length : Int) < 0 := by omega
      have hne0 : B.es.length ≠ 0 := by omega
      simp [asInt, asIntOf, hmax, h63, hneg, hne0, variablesAt, shape_of hb, elemOf, run_underlying hpt, hlies, hlb, textOf]
theorem builtin_does {E : Env} (hE : EnvOk E) {X : Cr} {w : World} {l : Look} (hl : RelL X w l) {T : List V} {a : Act} (hs : SR X w T a) {nid : Nat} {o : Oper} {ps : List Ev} {ob : Prop} {r : Out} {c : Call} {b : Builtin} {args : List V}
    (ho : o.op = .call c) (hb : c.callee = .builtin b) (ha : evs T c.args.toList = some args) {gr : Bool} (h : opBuiltin E l nid gr b c.argTypes args ps ob = some r) (hob : r.ob)
    (hfresh : ∀ k, nid ≤ k → k < nid + r.new.length → X.ρ.no k) : Does E X w a o l nid r ob := by
  have hexec : execOp a.eval o = builtin b c.argTypes o.type (c.args.map fun | .const _ => true | _ => false) (c.args.map a.eval) := by
    unfold execOp
    simp only [ho, resolve, hb]
    rfl
  have hmap : (c.args.map a.eval) = (c.args.toList.map a.eval).toArray := by rw [← Array.toList_map, Array.toArray_toList]
  unfold opBuiltin at h
  split at h
  · rename_i x
    obtain ⟨p, hp, hpv⟩ := evs_one ha
    split at h
    · rename_i d hd
      split at h
      · rename_i s n hn
        split at h
        · rename_i ps' ob' hm
          cases h
          obtain ⟨h1, h2⟩ := must_ob hm hob
          have hr := len_run hl (ty := o.type) hd hn (ev_vr hs hpv)
          refine does_same hl h1 rfl rfl (z := .int .i64 n) ?_ (.imm _ _ (.int _ _ _ h2))
          rw [hexec, hmap, hp]
          simp [builtin, hr]
        · cases h
      · cases h
    · cases h
  · rename_i x xs
    obtain ⟨p, os, hp, hpv, hvs⟩ := evs_cons ha
    split at h
    · rename_i v hv
      cases ok0_some h
      obtain ⟨hl1, hl2⟩ := evs_vr hs hvs
      obtain ⟨z, hz, hvz⟩ := min_run (P := E.P) true hv (ev_vr hs hpv) (by simpa using hl1) hl2
      refine does_same hl hob rfl rfl (z := z) ?_ hvz
      rw [hexec, hmap, hp]
      simp only [if_true] at hz
      simp [builtin, Builtin.min_, hz]
    · cases h
  · rename_i x xs
    obtain ⟨p, os, hp, hpv, hvs⟩ := evs_cons ha
    split at h
    · rename_i v hv
      cases ok0_some h
      obtain ⟨hl1, hl2⟩ := evs_vr hs hvs
      obtain ⟨z, hz, hvz⟩ := min_run (P := E.P) false hv (ev_vr hs hpv) (by simpa using hl1) hl2
      refine does_same hl hob rfl rfl (z := z) ?_ hvz
      rw [hexec, hmap, hp]
      simp only [Bool.false_eq_true, if_false] at hz
      simp [builtin, Builtin.max_, hz]
    · cases h
  · rename_i s x
    obtain ⟨p, q, hp, hpv, hqv⟩ := evs_two ha
    split at h
    · rename_i elem d1 hu hu1
      obtain ⟨t, h0, hu⟩ := Option.bind_eq_some_iff.1 hu
      obtain ⟨t1, h1, hu1⟩ := Option.bind_eq_some_iff.1 hu1
      split at h
      · rename_i hsrc
        have hd1 : d1 = .string ∨ ∃ e1, d1 = .slice e1 := by
          unfold srcOk at hsrc
          split at hsrc
          · cases hsrc
          · exact .inr ⟨_, rfl⟩
          · exact .inl rfl
          · cases hsrc
        have hex : (execOp a.eval o).run E.P w = ((Builtin.append_ c.argTypes o.type #[a.eval p, a.eval q]).run E.P w).andThen fun z w' => .ok (.value z) w' := by
          rw [hexec, hmap, hp]
          simp [builtin]
        split at h
        · split at h
          · rename_i bs xs ids lt sy ys js hb1 hb2
            obtain ⟨g0, z, w', X', hrun, hg⟩ := appO_run hl h0 h1 hu hu1 hd1 (ty := o.type) hb1 hb2 h (ev_vr hs hpv) (ev_vr hs hqv) hob (fun hne => (hfresh nid (Nat.le_refl _) (by
              have := List.length_pos_iff.2 hne
              omega)))
            exact ⟨g0, fun K Q hK => wp_val (by rw [hex, hrun]; rfl) (hK X' w' z hg)⟩
          · cases h
        · split at h
          · rename_i xs ids sy ys js hb1 hb2
            obtain ⟨g0, z, w', X', hrun, _, hg⟩ := append_run hl h0 h1 hu hu1 hd1 (ty := o.type) hb1 hb2 h (ev_vr hs hpv) (ev_vr hs hqv) hob (fun hne => (hfresh nid (Nat.le_refl _) (by
              have := List.length_pos_iff.2 hne
              omega)).1)
            exact ⟨g0, fun K Q hK => wp_val (by rw [hex, hrun]; rfl) (hK X' w' z hg)⟩
          · cases h
      · cases h
    · cases h
  · -- unsafe.SliceData
    rename_i id
    obtain ⟨p, hp, hpv⟩ := evs_one ha
    split at h
    · rename_i B hB
      obtain ⟨hB, hlst⟩ := lstOf_spec hB
      cases h
      have hv := ev_vr hs hpv
      have hn := vr_osl hv
      have hex : ∀ z, (Builtin.unsafeSliceData_ c.argTypes o.type #[a.eval p]).run E.P w = .ok z w → (execOp a.eval o).run E.P w = .ok (.value z) w := by
        intro z hz
        rw [hexec, hmap, hp]
        simp [builtin, hz]
      rcases hl.blk _ B hB with hg | hr
      · rw [hg.2.2.2.1] at hn
        have hn' := Option.some.inj hn
        refine does_same hl hob rfl rfl (z := .pointer none) (hex _ ?_) (.odp id 0 0 none hg.2.2.2.1)
        rw [← hn']
        rfl
      · obtain ⟨b', s, c', t', hρ, hown, hb', hrow, hty, hls⟩ := hr
        obtain ⟨⟨cap, g1, g2, g3, g4⟩, _⟩ := hls hlst
        rw [g1] at hn
        have hn' := Option.some.inj hn
        refine does_same hl hob rfl rfl (z := .pointer (some ⟨b', s, none⟩)) (hex _ ?_) (.odp id _ _ _ g1)
        rw [← hn']
        exact Lib.run_unsafeSliceData_row w _ _ _ _ _ (by omega)
    · cases h
  · -- unsafe.SliceData of nil
    obtain ⟨p, hp, hpv⟩ := evs_one ha
    cases ok0_some h
    refine does_same hl hob rfl rfl (z := .pointer none) ?_ (.imm _ _ .nilp)
    rw [hexec, hmap, hp]
    simp only [List.map_cons, List.map_nil, vr_nils (ev_vr hs hpv)]
    rfl
  · -- unsafe.String of nothing
    obtain ⟨p, q, hp, hpv, hqv⟩ := evs_two ha
    split at h
    · rename_i t ps' ob' hts hm
      cases ok0_some h
      obtain ⟨g0, g1⟩ := must_ob hm hob
      have hq := vr_int (ev_vr hs hqv)
      rw [of_decide_eq_true g1] at hq
      have hpp := vr_nilp (ev_vr hs hpv)
      refine does_same hl g0 rfl rfl (z := .string ByteArray.empty) ?_ (.imm _ _ (.str _ _))
      rw [hexec, hmap, hp]
      simp only [List.map_cons, List.map_nil, hq, hpp]
      have := Lib.run_unsafeString_none (P := E.P) w t t o.type none
      rw [← ustr_ts hts] at this
      simp [builtin, this]
    · cases h
  · -- unsafe.String
    rename_i id s n
    obtain ⟨p, q, hp, hpv, hqv⟩ := evs_two ha
    split at h
    · rename_i B e hB hu
      obtain ⟨hB, hlst⟩ := lstOf_spec hB
      obtain ⟨t, h0, hu⟩ := Option.bind_eq_some_iff.1 hu
      split at h
      · rename_i ps' ob' hm
        split at h
        · rename_i hc
          obtain ⟨hc1, hc2, hc3⟩ := hc
          cases h
          obtain ⟨g0, g1⟩ := must_ob hm hob
          simp only [Bool.and_eq_true, decide_eq_true_eq] at g1
          have hq := ev_vr hs hqv
          obtain ⟨w', hrun, hst⟩ := ustr_run hl hB hlst (ev_vr hs hpv) (vr_inK hq) g1.1 g1.2 hc1 hc2 hc3 (ts := c.argTypes) (ty := o.type) h0 hu
          refine ⟨g0, fun K Q hK => wp_val (z := .string (textOf B.es)) (w' := w') ?_ (hK X w' _ ⟨by rw [newL_nil]; exact hst, .imm _ _ (.str _ _), fun id h _ => h⟩)⟩
          rw [hexec, hmap, hp]
          simp only [List.map_cons, List.map_nil, vr_int hq]
          simp [builtin, hrun]
        · cases h
      · cases h
    · cases h
  · cases h
theorem iop_does {E : Env} (hE : EnvOk E) {X : Cr} {w : World} {l : Look} (hl : RelL X w l) {T : List V} {a : Act} (hs : SR X w T a) {nid : Nat} {o : Oper} {ps : List Ev} {ob : Prop} {r : Out}
    (h : iop E T l nid o ps ob = some r) (hob : r.ob) (hfresh : ∀ k, nid ≤ k → k < nid + r.new.length → X.ρ.no k) : Does E X w a o l nid r ob := by
  unfold iop at h
  simp only at h
  split at h
  · -- move
    rename_i x ho
    split at h
    · rename_i v hv; cases ok0_some h; exact does_same hl hob rfl rfl (z := a.eval x) (by simp [execOp, ho]) (ev_vr hs hv)
    · cases h
  · -- assign
    rename_i x ho
    split at h
    · rename_i v hv; cases ok0_some h; exact does_same hl hob rfl rfl (z := a.eval x) (by simp [execOp, ho]) (ev_vr hs hv)
    · cases h
  · -- pick
    rename_i c x y ho
    split at h
    · rename_i s b u v hc hx hy
      split at h
      · rename_i ps' ob' hk
        cases ok0_some h
        obtain ⟨h1, h2⟩ := ask_ob hk hob
        exact does_same hl h1 rfl rfl (z := a.eval x) (by simp [execOp, ho, vr_bool (ev_vr hs hc), asBool, h2]) (ev_vr hs hx)
      · rename_i ps' ob' hk
        cases ok0_some h
        obtain ⟨h1, h2⟩ := ask_ob hk hob
        exact does_same hl h1 rfl rfl (z := a.eval y) (by simp [execOp, ho, vr_bool (ev_vr hs hc), asBool, h2]) (ev_vr hs hy)
      · cases h
    · cases h
  · -- alloc
    rename_i t ho
    split at h
    · rename_i z hz
      split at h
      · rename_i hone
        cases h
        obtain ⟨i, zv, hi, hzv, hov⟩ := zeroV_val hz
        have hzr : X.vr w z zv := .imm _ _ (ofVal_ir hov)
        have hf := hfresh nid (Nat.le_refl _) (by simp)
        have hst := alloc_step (hty := fun t' h => by cases h; exact ⟨rfl, (vr_cells hzr hone).1.symm⟩) hl (nid := nid) hf.1 (w' := w.alloc (.cells zv.cells t)) (B := { es := [z], sz := z.cells.length, dirty := true, ty := some t }) rfl rfl rfl rfl fun X' w' hE => box_row hE hzr hone
        refine ⟨hob, fun K Q hK => wp_val (z := .pointer (some ⟨w.heap.size, 0, none⟩)) (w' := w.alloc (.cells zv.cells t)) (by simp [execOp, ho, Instr.alloc, zeroValue, typeInfo, hi, hzv, newVar, newRow]) (hK _ _ _ ⟨hst, ?_, fun id hp hr => ?_⟩)⟩
        · have := VR.mptr (h := (w.alloc (.cells zv.cells t)).heap) (own := (X.add nid w.heap.size z.cells.length).own) (ρ := (X.add nid w.heap.size z.cells.length).ρ) nid 0 0 w.heap.size 0 z.cells.length (by simp [Cr.add])
          simpa using this
        · refine ⟨?_, hp.2⟩
          simp only [Cr.add]
          rw [if_neg (by rintro rfl; exact hr (by simp))]
          exact hp.1
      · cases h
    · cases h
  · -- box
    rename_i t x ho
    split at h
    · rename_i v hv
      have hvx := ev_vr hs hv
      split at h
      · rename_i hone
        have hrun : (execOp a.eval o).run E.P w = .ok (.value (.pointer (some ⟨w.heap.size, 0, none⟩))) (w.alloc (.cells (a.eval x).cells t)) := by simp [execOp, ho, Instr.box, newVar, newRow]
        split at h
        · split at h
          · rename_i hp
            cases ok0_some h
            have hst := imm_step hl (w' := w.alloc (.cells (a.eval x).cells t)) (o := .cells (a.eval x).cells t) rfl rfl rfl rfl
            refine ⟨hob, fun K Q hK => wp_val hrun (hK X _ _ ⟨by rw [newL_nil]; exact hst, ?_, fun id hp _ => hp⟩)⟩
            obtain ⟨hlen, hcells, _⟩ := vr_cells hvx hone
            have hno : ¬ X.own w.heap.size := fun h => Nat.lt_irrefl _ (hl.lt _ h)
            have hpc : ∀ (j : Nat) (u : V), v.cells[j]? = some u → u.pure = true := by
              intro j u hj
              cases v <;> first
                | (simp only [V.cells] at hj
                   cases j with
                   | zero => simp at hj; subst hj; exact hp
                   | succ j => simp at hj)
                | (simp only [V.cells] at hj
                   exact pureL_get (by simpa [V.pure] using hp) hj)
            have hget : ∀ (j : Nat) (u : V), v.cells[j]? = some u → (a.eval x).cells[0 + j]? = some (((a.eval x).cells[j]?).getD undef) ∧ IR (w.alloc (.cells (a.eval x).cells t)).heap X.own u (((a.eval x).cells[j]?).getD undef) := by
              intro j u hj
              obtain ⟨y, hy, hvy⟩ := hcells j u hj
              rw [Nat.zero_add, hy]
              exact ⟨rfl, (pure_ir hvy (hpc j u hj)).ext hst.toExt⟩
            have := IR.iptr (h := (w.alloc (.cells (a.eval x).cells t)).heap) (own := X.own) v 0 w.heap.size 0 (a.eval x).cells t (0, 0) (fun j => ((a.eval x).cells[j]?).getD undef) hno (push_new rfl) (fun j u hj => (hget j u hj).1) (fun j u hj => (hget j u hj).2)
            exact .imm _ _ (by simpa using this)
          · cases h
        · cases h
          have hf := hfresh nid (Nat.le_refl _) (by simp)
          have hst := alloc_step (hty := fun t' h => by cases h; exact ⟨rfl, (vr_cells hvx hone).1.symm⟩) hl (nid := nid) hf.1 (w' := w.alloc (.cells (a.eval x).cells t)) (B := { es := [v], sz := v.cells.length, dirty := true, ty := some t }) rfl rfl rfl rfl fun X' w' hE => box_row hE hvx hone
          refine ⟨hob, fun K Q hK => wp_val hrun (hK _ _ _ ⟨hst, ?_, fun id hp hr => ?_⟩)⟩
          · have := VR.mptr (h := (w.alloc (.cells (a.eval x).cells t)).heap) (own := (X.add nid w.heap.size v.cells.length).own) (ρ := (X.add nid w.heap.size v.cells.length).ρ) nid 0 0 w.heap.size 0 v.cells.length (by simp [Cr.add])
            simpa using this
          · refine ⟨?_, hp.2⟩
            simp only [Cr.add]
            rw [if_neg (by rintro rfl; exact hr (by simp))]
            exact hp.1
      · cases h
    · cases h
  · -- build
    rename_i t parts ho
    split at h
    · rename_i vs hp
      split at h
      · rename_i v hv
        cases ok0_some h
        obtain ⟨y, hy, hvy⟩ := build_run hs hp hv
        exact does_same hl hob rfl rfl (z := y) (by simp [execOp, ho, hy]) hvy
      · cases h
    · cases h
  · -- buildSlice
    rename_i t len parts ho
    split at h
    · rename_i elem vs hu hp
      split at h
      · rename_i z hz
        split at h
        · rename_i hc
          obtain ⟨hpos, hsmall, hzl, hz1⟩ := hc
          split at h
          · rename_i es hfs
            obtain ⟨hel, xs, hrun, her⟩ := buildSlice_run hs hp hu hz hpos hsmall hzl hz1 hfs
            have hrun' : (execOp a.eval o).run E.P w = .ok (.value (.slice (some ⟨w.heap.size, 0, none⟩) len len)) (w.alloc (.cells xs elem)) := by simp [execOp, ho, hrun]
            split at h
            · split at h
              · rename_i hlen
                cases h
                have hf := hfresh nid (Nat.le_refl _) (by simp)
                have hst := alloc_step hl (nid := nid) hf.1 (w' := w.alloc (.cells xs elem)) (B := { es, sz := E.P.cellsOf elem, dirty := true, lty := some elem }) rfl rfl rfl rfl fun X' w' hE => her.row hE
                have hBn : (newL l nid [some ({ es, sz := E.P.cellsOf elem, dirty := true, lty := some elem } : Blk)]) nid = some { es, sz := E.P.cellsOf elem, dirty := true, lty := some elem } := by rw [newL_one]; simp
                have hst2 := lst_step hst.rel hBn (show (X.add nid w.heap.size (E.P.cellsOf elem)).ρ.n nid = none from hf.2) (b := w.heap.size) (s := 0) (cap := len) (c := xs) (e := elem) (f := (0, 0)) (by simp [Cr.add]) (push_new rfl) hlen (by dsimp only; rw [hel]; exact Nat.le_refl _) (by dsimp only; rw [her.1, hel]; omega) false (fun h => by cases h) (some elem) (fun t ht => by cases ht; rfl) rfl
                have hst3 := Step.trans hl hst hst2
                have he : (fun i => if i = nid then some ({ es, sz := E.P.cellsOf elem, dirty := true, sym := false, lst := true, lty := some elem } : Blk) else newL l nid [some { es, sz := E.P.cellsOf elem, dirty := true, lty := some elem }] i) =
                    newL l nid [some { es, sz := E.P.cellsOf elem, dirty := true, lst := true, lty := some elem }] := by
                  rw [newL_one, newL_one]
                  funext i
                  by_cases hi : i = nid <;> simp [hi]
                rw [he] at hst3
                refine ⟨hob, fun K Q hK => wp_val hrun' (hK _ _ _ ⟨hst3, ?_, fun id hp hr => ?_⟩)⟩
                · exact .osl nid _ _ _ (by simp [hel])
                · refine ⟨?_, ?_⟩
                  · simp only [Cr.add]
                    rw [if_neg (by rintro rfl; exact hr (by simp))]
                    exact hp.1
                  · show (if id = nid then _ else _) = none
                    rw [if_neg (by rintro rfl; exact hr (by simp))]
                    exact hp.2
              · rename_i hlen
                cases h
                have hl0 : len = 0 := by omega
                subst hl0
                have hf := hfresh nid (Nat.le_refl _) (by simp)
                have hst := alloc_step hl (nid := nid) hf.1 (w' := w.alloc (.cells xs elem)) (B := { es, sz := E.P.cellsOf elem, dirty := true, lty := some elem }) rfl rfl rfl rfl fun X' w' hE => her.row hE
                refine ⟨hob, fun K Q hK => wp_val hrun' (hK _ _ _ ⟨hst, ?_, fun id hp hr => ?_⟩)⟩
                · exact .msl nid 0 0 0 w.heap.size 0 (E.P.cellsOf elem) 0 xs elem (0, 0) (by simp [Cr.add]) (Nat.le_refl _) (.inl rfl) (push_new rfl) (.inl rfl)
                · refine ⟨?_, hp.2⟩
                  simp only [Cr.add]
                  rw [if_neg (by rintro rfl; exact hr (by simp))]
                  exact hp.1
            · split at h
              · rename_i hpu
                cases ok0_some h
                have hst := imm_step hl (w' := w.alloc (.cells xs elem)) (o := .cells xs elem) rfl rfl rfl rfl
                refine ⟨hob, fun K Q hK => wp_val hrun' (hK X _ _ ⟨by rw [newL_nil]; exact hst, ?_, fun id hp _ => hp⟩)⟩
                have hno : ¬ X.own w.heap.size := fun h => Nat.lt_irrefl _ (hl.lt _ h)
                have hget : ∀ (k : Nat) (e : V) (j : Nat) (u : V), es[k]? = some e → e.cells[j]? = some u → xs[0 + k * E.P.cellsOf elem + j]? = some ((xs[k * E.P.cellsOf elem + j]?).getD undef) ∧ IR (w.alloc (.cells xs elem)).heap X.own u ((xs[k * E.P.cellsOf elem + j]?).getD undef) := by
                  intro k e j u hk hj
                  obtain ⟨y, hy, hvy⟩ := (her.2 k e hk).2 j u hj
                  rw [Nat.zero_add, hy]
                  refine ⟨rfl, (pure_ir hvy ?_).ext hst.toExt⟩
                  have hpe := pureL_get hpu hk
                  cases e <;> first
                    | (simp only [V.cells] at hj
                       cases j with
                       | zero => simp at hj; subst hj; exact hpe
                       | succ j => simp at hj)
                    | (simp only [V.cells] at hj
                       exact pureL_get (by simpa [V.pure] using hpe) hj)
                have := IR.isl (h := (w.alloc (.cells xs elem)).heap) (own := X.own) false es w.heap.size 0 len (E.P.cellsOf elem) xs elem (0, 0) (fun k j => (xs[k * E.P.cellsOf elem + j]?).getD undef) (by omega) hno (push_new rfl)
                  (fun k e hk => (her.2 k e hk).1) (fun k e j u hk hj => (hget k e j u hk hj).1) (fun k e j u hk hj => (hget k e j u hk hj).2)
                rw [hel] at this
                exact .imm _ _ this
              · cases h
          · cases h
        · cases h
      · cases h
    · cases h
  · -- load
    rename_i t x ho
    split at h
    · rename_i p hp
      obtain ⟨h1, h2, h3, y, hy, hvy⟩ := load_run hl h (ev_vr hs hp) hob
      exact does_same hl h3 h1 h2 (z := y) (by simp [execOp, ho, hy]) hvy
    · cases h
  · -- store
    rename_i t x y ho
    split at h
    · rename_i p v hp hv
      obtain ⟨h1, h2, h3, w', hw, hst⟩ := store_run hl h (ev_vr hs hp) (ev_vr hs hv)
      refine ⟨h2 ▸ hob, fun K Q hK => wp_skp (w' := w') (by simp [execOp, ho, hw]) (hK X w' undef ⟨by rw [h1, newL_nil]; exact hst, ?_, fun id hp _ => hp⟩)⟩
      rw [h3]
      exact .imm _ _ (.tup [] #[] rfl fun j v x h => by simp at h)
    · cases h
  · -- nilCheck
    rename_i x ho
    split at h
    · rename_i e off hx
      cases ok0_some h
      have hv := ev_vr hs hx
      obtain ⟨b, q, hq, _⟩ := iptr_mem (vr_iptr hv)
      exact does_same hl hob rfl rfl (z := a.eval x) (by simp [execOp, ho, hq]) hv
    · rename_i id i off hx
      cases ok0_some h
      have hv := ev_vr hs hx
      obtain ⟨b, q, z, _, hq⟩ := vr_mptr hv
      exact does_same hl hob rfl rfl (z := a.eval x) (by simp [execOp, ho, hq]) hv
    · rename_i f x' y' hx
      cases ok0_some h
      have hv := ev_vr hs hx
      obtain ⟨xs, ys, hq, _⟩ := vr_fn hv
      exact does_same hl hob rfl rfl (z := a.eval x) (by simp [execOp, ho, hq]) hv
    · cases h
  · -- binOp
    rename_i op t x y t' ho
    split at h
    · rename_i u v hx hy
      obtain ⟨h1, h2, h3, z, hz, hv⟩ := binop_run (xo := x) (yo := y) h (ev_vr hs hx) (ev_vr hs hy) hob
      exact does_same hl h3 h1 h2 (z := z) (by unfold execOp; simp only [ho]; rw [Sem.run_bind, hz]; rfl) hv
    · cases h
  · -- unOp
    rename_i op t x ho
    split at h
    · rename_i s u hu
      obtain ⟨v0, hv0, hts⟩ := Option.bind_eq_some_iff.1 hu
      split at h
      · rename_i v hv
        cases ok0_some h
        obtain ⟨z, hz, hoz⟩ := Option.bind_eq_some_iff.1 hv
        have hx := toScalar_vr hts (ev_vr hs hv0)
        exact does_same hl hob rfl rfl (z := z) (by simp [execOp, ho, hx, pureRun_run hz]) (.imm _ _ (mark_ir s (ofRes_ir hoz fun k n _ hn => by subst hn; exact unary_res hts hz)))
      · cases h
    · cases h
  · -- convert
    rename_i src dst x ho
    split at h
    · rename_i s k n hx
      split at h
      · rename_i d k' hsrc hdst
        cases ok0_some h
        have hv := vr_int (ev_vr hs hx)
        exact does_same hl hob rfl rfl (z := .int k' (k'.wrap n)) (by simp [execOp, ho, hv, convert, run_underlying hsrc, run_underlying hdst, Conv.intToInt]) (.imm _ _ (.int _ _ _ (wrap_inK _ _)))
      · cases h
    · rename_i s b hx
      split at h
      · rename_i d hsrc hdst
        cases ok0_some h
        have hv := vr_str (ev_vr hs hx)
        refine does_same hl hob rfl rfl (z := .string b) ?_ (.imm _ _ (.str _ _))
        cases d <;> simp [execOp, ho, hv, convert, run_underlying hsrc, run_underlying hdst]
      · cases h
    · rename_i s xs hx
      split at h
      · rename_i e hsrc hdst
        split at h
        · rename_i hbt
          have hue : E.P.underlying e = some (.int .u8) := by
            unfold byteT at hbt
            split at hbt
            · assumption
            · cases hbt
          split at h
          · rename_i ps' ob' hm
            cases ok0_some h
            obtain ⟨g0, g1⟩ := must_ob hm hob
            refine does_same hl g0 rfl rfl (z := .string (textOf xs)) ?_ (.imm _ _ (.str _ _))
            have hi := vr_isl (ev_vr hs hx)
            have hstr : ∀ (xs : List V), (xs.map (fun v => match v with | .int _ _ n => n | _ => (0 : Int))).foldl (fun r n => r.push (UInt8.ofNat n.toNat)) ByteArray.empty = textOf xs ∨ ¬ xs.all isByte = true := by
              intro xs
              by_cases ha : xs.all isByte = true
              · refine .inl ?_
                rw [← List.foldl_map (f := fun n : Int => UInt8.ofNat n.toNat) (g := fun (r : ByteArray) b => r.push b), List.map_map, foldl_push]
                simp only [textOf]
                congr 1
                show #[] ++ _ = _
                rw [Array.empty_append]
                congr 1
                apply List.map_congr_left
                intro v hv
                obtain ⟨s, n, rfl⟩ := isByte_spec (List.all_eq_true.1 ha v hv)
                rfl
              · exact .inr ha
            have hstr' := (hstr xs).resolve_right (fun h => h g1)
            have fin : ∀ (y : Value) (ao : Option Addr) (n cap : Nat), y = .slice ao n cap → (Conv.bytesToString (.slice ao n cap)).run E.P w = .ok (.string (textOf xs)) w → a.eval x = y → (execOp a.eval o).run E.P w = .ok (.value (.string (textOf xs))) w := by
              intro y ao n cap hy hrun hxy
              subst hy
              have := run_convert_bytes_string w src dst e ao n cap hsrc hue hdst
              simp [execOp, ho, hxy, this, hrun]
            generalize hxv : a.eval x = xval at hi
            cases hi with
            | isl0 _ ao cap =>
              refine fin _ ao 0 cap rfl ?_ hxv
              cases ao with
              | none => rfl
              | some ad =>
                have := run_bytesToString (P := E.P) w ad 0 cap [] (by simp [loadCells, loadCellsFrom])
                have e : textOf [] = ByteArray.empty := rfl
                rw [e]
                simpa using this
            | isl _ _ b o' cap sz c e' f xv hcap hown hb hszs hc hr =>
              refine fin _ _ _ cap rfl ?_ hxv
              rw [← hstr']
              refine run_bytesToString w _ xs.length cap _ ?_
              have hl0 : (xs.map (fun v => match v with | .int _ _ n => n | _ => (0 : Int))).length = xs.length := List.length_map _
              have := run_loadCells_list (P := E.P) w ⟨b, o', none⟩ ((xs.map (fun v => match v with | .int _ _ n => n | _ => (0 : Int))).map (Value.int .u8)) (fun j v hj => by
                rw [List.getElem?_map, List.getElem?_map] at hj
                cases hxj : xs[j]? with
                | none => simp [hxj] at hj
                | some u =>
                  obtain ⟨s', n, rfl⟩ := isByte_spec (List.all_eq_true.1 g1 u (List.mem_of_getElem? hxj))
                  simp only [hxj, Option.map_some, Option.some.injEq] at hj
                  subst hj
                  have h1 := hc j _ 0 (.int s' .u8 n) hxj rfl
                  have h2 := hr j _ 0 (.int s' .u8 n) hxj rfl
                  have hz := hszs j _ hxj
                  simp only [V.cells, List.length_singleton] at hz
                  subst hz
                  generalize hxvv : xv j 0 = zz at h1 h2
                  cases h2
                  rw [add_off, cell_of hb]
                  simpa using h1)
              rw [List.length_map, List.length_map] at this
              exact this
          · cases h
        · cases h
      · cases h
    · rename_i id i off hx
      have hv := ev_vr hs hx
      obtain ⟨b, s, z, hρ, hq⟩ := vr_mptr hv
      split at h
      · rename_i t B hsrc hdst hB
        split at h
        · rename_i hc
          obtain ⟨rfl, hoff, hty, hcz⟩ := hc
          cases h
          obtain ⟨b', s', c, e, hρ', hown, hb, hrow, htyp, _⟩ := hl.real hB hρ
          rw [hρ] at hρ'
          cases hρ'
          obtain ⟨te, hte⟩ := Option.isSome_iff_exists.1 hty
          obtain ⟨rfl, rfl, hcs⟩ := htyp te hte
          have hinfo : ∃ j, E.P.info? t = some j ∧ j.size ≠ 0 := by
            unfold Program.cellsOf at hcz
            cases hj : E.P.info? t with
            | none => simp [hj] at hcz
            | some j => exact ⟨j, rfl, by simpa [hj] using hcz⟩
          obtain ⟨j, hj, hjs⟩ := hinfo
          refine does_same hl hob rfl rfl (z := a.eval x) ?_ hv
          have := Lib.run_to_unsafe (P := E.P) w (src := src) (dst := dst) (t := t) ⟨b, 0 + 0 * B.sz + off, none⟩ hsrc hdst hj hjs (shape_of hb) (by rw [hcs]; simpa using hoff)
          simp [execOp, ho, hq]
          rw [show (off : Nat) = 0 + 0 * B.sz + off by omega, this]
          rfl
        · cases h
      · rename_i u B hsrc hdst hB
        split at h
        · rename_i e he
          split at h
          · rename_i hc
            obtain ⟨rfl, hinfo, hlies⟩ := hc
            cases h
            obtain ⟨b', s', c, e', hρ', hown, hb, hrow, htyp, _⟩ := hl.real hB hρ
            rw [hρ] at hρ'
            cases hρ'
            obtain ⟨rfl, rfl, hcs⟩ := htyp e he
            obtain ⟨j, hj⟩ := Option.isSome_iff_exists.1 hinfo
            refine does_same hl hob rfl rfl (z := a.eval x) ?_ hv
            have := Lib.run_from_unsafe (P := E.P) w (src := src) (dst := dst) (u := u) ⟨b, 0 + 0 * B.sz + off, none⟩ hsrc hdst hj (shape_of hb) (by rw [hcs]; simpa using hlies)
            simp [execOp, ho, hq]
            rw [show (off : Nat) = 0 + 0 * B.sz + off by omega, this]
            rfl
          · cases h
        · cases h
      · cases h
    · cases h
  · -- makeInterface
    rename_i t x ho
    split at h
    · cases h
    · rename_i v d hne hx hu
      cases ok0_some h
      refine does_same hl hob rfl rfl (z := .iface t (a.eval x)) ?_ (.ifc t v _ (ev_vr hs hx))
      cases d <;> first
        | (simp [execOp, ho, Instr.makeInterface, run_underlying hu]; done)
        | exact (hne _ rfl).elim
    · cases h
  · -- makeFunc
    rename_i f first captured ho
    split at h
    · rename_i u v hu hv
      cases ok0_some h
      obtain ⟨h1, h2⟩ := evs_vr hs hu
      obtain ⟨h3, h4⟩ := evs_vr hs hv
      refine does_same hl hob rfl rfl (z := .func f (first.map a.eval) (captured.map a.eval)) (by simp [execOp, ho, Instr.makeFunc]) ?_
      exact .fn f u v _ _ (by simpa using h1) (fun j z y hj hy => h2 j z y hj (by simpa using hy)) (by simpa using h3) (fun j z y hj hy => h4 j z y hj (by simpa using hy))
    · cases h
  · -- makeSlice
    rename_i t lo c ho
    split at h
    · rename_i elem kl n kc m hu hlo hc
      split at h
      · rename_i z hz
        split at h
        · rename_i hcond
          obtain ⟨rfl, hpos, hcpos, hsmall, hbytes, hzl, hz1⟩ := hcond
          obtain ⟨ie, zv, hie, hzv, hov⟩ := zeroV_val hz
          have hsz : E.P.cellsOf elem = ie.size := by simp [Program.cellsOf, hie]
          have hby : E.P.bytesOf elem = ie.bytes := by simp [Program.bytesOf, hie]
          have her := zeros_er (P := E.P) X w n.toNat hie hov hzl hz1
          have e1 := vr_int (ev_vr hs hlo)
          have e2 := vr_int (ev_vr hs hc)
          have hrun := run_makeSlice (P := E.P) w t elem ie zv hu hie hzv kl kc n n (by omega) (Int.le_refl _) (by rw [← hsz]; omega) (by rw [← hby]; omega) (by
            have := hsmall
            have h1 : n.toNat * 1 ≤ n.toNat * E.P.cellsOf elem := Nat.mul_le_mul_left _ hcpos
            omega)
          have hrun' : (execOp a.eval o).run E.P w = .ok (.value (.slice (some ⟨w.heap.size, 0, none⟩) n.toNat n.toNat)) (w.alloc (.cells (madeCells zv.cells (n.toNat * ie.size)) elem)) := by simp [execOp, ho, e1, e2, hrun]
          cases h
          have hel : (List.replicate n.toNat z).length = n.toNat := List.length_replicate
          have hlen : 0 < n.toNat := by omega
          generalize hxs : madeCells zv.cells (n.toNat * ie.size) = xs at hrun'
          replace her : ER X w (E.P.cellsOf elem) (List.replicate n.toNat z) xs := by rw [← hxs]; exact her
          generalize List.replicate n.toNat z = es at her hel
          generalize n.toNat = len at hrun' hel hlen
          have hf := hfresh nid (Nat.le_refl _) (by simp)
          have hst := alloc_step hl (nid := nid) hf.1 (w' := w.alloc (.cells xs elem)) (B := { es, sz := E.P.cellsOf elem, dirty := true, lty := some elem }) rfl rfl rfl rfl fun X' w' hE => her.row hE
          refine ⟨hob, fun K Q hK => wp_val hrun' (hK _ _ _ ⟨hst, ?_, fun id hp hr => ?_⟩)⟩
          · exact .msl nid 0 len len w.heap.size 0 (E.P.cellsOf elem) 0 xs elem (0, 0) (by simp [Cr.add]) (Nat.le_refl _) (.inr (by simp)) (push_new rfl) (.inr (by rw [her.1, hel]; omega))
          · refine ⟨?_, hp.2⟩
            simp only [Cr.add]
            rw [if_neg (by rintro rfl; exact hr (by simp))]
            exact hp.1
        · cases h
      · cases h
    · cases h
  · -- slice
    rename_i t x lo hi ho
    split at h
    · rename_i v vl vh hx hlo hhi
      split at h
      · rename_i elem hu
        obtain ⟨h1, h2, h3, z, hz, hv⟩ := slice_run hl hu (optInt_r hs hlo) (optInt_r hs hhi) h (ev_vr hs hx) hob
        exact does_same hl h3 h1 h2 (z := z) (by simp [execOp, ho, hz]) hv
      · rename_i s b hu
        obtain ⟨h1, h2, h3, z, hz, hv⟩ := cut_run (X := X) (w := w) hu (optInt_r hs hlo) (optInt_r hs hhi) h hob
        exact does_same hl h3 h1 h2 (z := z) (by simp [execOp, ho, vr_str (ev_vr hs hx), hz]) hv
      · cases h
    · cases h
  · -- fieldAddr
    rename_i s x f ho
    have hfs : ∀ {g : Field}, (fieldsOf E.P s).bind (·[f]?) = some g → ∃ fs, E.P.underlying s = some (.struct fs) ∧ fs[f]? = some g := by
      intro g hg
      obtain ⟨fs, h1, h2⟩ := Option.bind_eq_some_iff.1 hg
      unfold fieldsOf at h1
      split at h1
      · cases h1; exact ⟨_, by assumption, h2⟩
      · cases h1
    split at h
    · rename_i e off g hx hg
      obtain ⟨fs, hu, hgf⟩ := hfs hg
      split at h
      · cases h
      · rename_i hz
        cases ok0_some h
        have hv := ev_vr hs hx
        cases hxe : a.eval x with
        | pointer p =>
          rw [hxe] at hv
          cases vr_iptr hv with
          | iptr _ _ b q c t' f' xv hown hb hc hr =>
            have := IR.iptr (h := w.heap) (own := X.own) e (off + g.offset) b q c t' f' xv hown hb hc hr
            refine does_same hl hob rfl rfl (z := .pointer (some ⟨b, q + (off + g.offset), none⟩)) ?_ (.imm _ _ this)
            have hr' := fieldAddr_run (w := w) (b := b) (q := q + off) hu hgf hz
            simp [execOp, ho, hxe, hr', Nat.add_assoc]
        | _ => rw [hxe] at hv; cases vr_iptr hv
    · rename_i id i off g hx hg
      obtain ⟨fs, hu, hgf⟩ := hfs hg
      split at h
      · cases h
      · rename_i hz
        cases ok0_some h
        obtain ⟨b, q, z, hρ, hq⟩ := vr_mptr (ev_vr hs hx)
        have hr' := fieldAddr_run (w := w) (b := b) (q := q + i * z + off) hu hgf hz
        exact does_same hl hob rfl rfl (z := .pointer (some ⟨b, q + i * z + off + g.offset, none⟩)) (by simp [execOp, ho, hq, hr']) (by rw [Nat.add_assoc (q + i * z)]; exact .mptr id i _ b q z hρ)
    · cases h
  · -- field
    rename_i s x f ho
    split at h
    · rename_i cs g hx hg
      split at h
      · rename_i v hv
        cases ok0_some h
        obtain ⟨fs, h1, h2⟩ := Option.bind_eq_some_iff.1 hg
        have hu : E.P.underlying s = some (.struct fs) := by
          unfold fieldsOf at h1
          split at h1
          · cases h1; assumption
          · cases h1
        obtain ⟨xs, hxe, hlen, hr⟩ := vr_agg (ev_vr hs hx)
        obtain ⟨y, hy, hvy⟩ := part_val (w := w) hv hlen hr
        exact does_same hl hob rfl rfl (z := y) (by simp [execOp, ho, Instr.field, run_underlying hu, h2, hxe, asAgg, hy]) hvy
      · cases h
    · cases h
  · -- indexAddr
    rename_i t x i ho
    split at h
    · rename_i u v hx hy
      obtain ⟨h1, h2, h3, z, hz, hv⟩ := indexAddr_run hl h (ev_vr hs hx) (ev_vr hs hy) hob
      exact does_same hl h3 h1 h2 (z := z) (by simp [execOp, ho, hz]) hv
    · cases h
  · -- index
    rename_i t x i ho
    split at h
    · rename_i s b s' k n hu hx hi
      split at h
      · rename_i ps' ob' hm
        cases ok0_some h
        obtain ⟨h1, h2⟩ := must_ob hm hob
        obtain ⟨h3, h4⟩ := inRange_spec h2
        have hb : b[n.toNat]? = some (((b.data.toList[n.toNat]?).getD 0)) := by
          have hlt : n.toNat < b.size := by omega
          have hlt' : n.toNat < b.data.toList.length := by simpa using hlt
          rw [getElem?_pos b n.toNat hlt, List.getElem?_eq_getElem hlt']
          simp [ByteArray.getElem_eq_getElem_data]
        refine does_same hl h1 rfl rfl (z := .int .u8 ((((b.data.toList[n.toNat]?).getD 0).toNat : Nat) : Int)) ?_ (.imm _ _ (.int _ _ _ (inK_spec.2 ⟨Int.natCast_nonneg _, by have := ((b.data.toList[n.toNat]?).getD 0).toNat_lt; show _ ≤ (255 : Int); omega⟩)))
        simp only [execOp, ho, vr_str (ev_vr hs hx), vr_int (ev_vr hs hi), Instr.index, asIntOf, Sem.run_bind, Sem.run_pure, Result.andThen_ok, run_underlying hu, h3, if_true, hb]
      · cases h
    · rename_i len elem cs s' k n hu hx hi
      split at h
      · rename_i ps' ob' hm
        split at h
        · rename_i v hv
          cases ok0_some h
          obtain ⟨h1, h2⟩ := must_ob hm hob
          obtain ⟨h3, h4⟩ := inRange_spec h2
          obtain ⟨xs, hxe, hlen, hr⟩ := vr_agg (ev_vr hs hx)
          obtain ⟨y, hy, hvy⟩ := part_val (w := w) hv hlen hr
          have hsz := run_sizeOf' (P := E.P) (part_info hv) w
          refine does_same hl h1 rfl rfl (z := y) ?_ hvy
          simp [execOp, ho, hxe, vr_int (ev_vr hs hi), Instr.index, asIntOf, run_underlying hu, h3, h4, hsz, hy]
        · cases h
      · cases h
    · cases h
  · -- extract
    rename_i x i ho
    split at h
    · rename_i vs hx
      split at h
      · rename_i v hv
        cases ok0_some h
        obtain ⟨xs, hxe, hlen, hr⟩ := vr_tup (ev_vr hs hx)
        have hlt : i < vs.length := (List.getElem?_eq_some_iff.1 hv).1
        have hxi : xs[i]? = some xs[i] := Array.getElem?_eq_getElem (hlen ▸ hlt)
        exact does_same hl hob rfl rfl (z := xs[i]) (by simp [execOp, ho, hxe, Instr.extract, hxi]) (hr i v _ hv hxi)
      · cases h
    · cases h
  · -- call
    rename_i c ho
    split at h
    · rename_i args ha
      split at h
      · rename_i b hb
        exact builtin_does hE hl hs ho hb ha h hob hfresh
      · rename_i f hf
        split at h
        · rename_i k first captured hk
          split at h
          · rename_i hbody
            obtain ⟨xs, ys, hfe, hl1, hl2, hr1, hr2⟩ := vr_fn (ev_vr hs hk)
            obtain ⟨ha1, ha2⟩ := evs_vr hs ha
            have hargs : (first ++ args ++ captured).length = (xs ++ c.args.map a.eval ++ ys).size := by simp; simp at ha1; omega
            have hpt : ∀ (j : Nat) (u : V) (x : Value), (first ++ args ++ captured)[j]? = some u → (xs ++ c.args.map a.eval ++ ys)[j]? = some x → X.vr w u x := by
              intro j u x hj hx
              have hsz : args.length = (c.args.map a.eval).size := by simpa using ha1
              by_cases h1 : j < first.length
              · rw [List.append_assoc, List.getElem?_append_left h1] at hj
                rw [Array.append_assoc, Array.getElem?_append_left (by omega)] at hx
                exact hr1 j u x hj hx
              · by_cases h2 : j < first.length + args.length
                · rw [List.append_assoc, List.getElem?_append_right (by omega), List.getElem?_append_left (by omega)] at hj
                  rw [Array.append_assoc, Array.getElem?_append_right (by omega), Array.getElem?_append_left (by omega)] at hx
                  rw [hl1] at hj
                  exact ha2 _ u x hj (by simpa using hx)
                · rw [List.getElem?_append_right (by simp; omega)] at hj
                  rw [Array.getElem?_append_right (by rw [Array.size_append]; omega)] at hx
                  refine hr2 _ u x hj ?_
                  rw [← hx]
                  congr 1
                  rw [Array.size_append, List.length_append]; omega
            obtain ⟨g0, hcalls⟩ := call_does hE hl h hob hfresh hargs hpt
            refine ⟨g0, fun K Q hK => ?_⟩
            have hrun : (execOp a.eval o).run E.P w = .ok (.enter k (xs ++ c.args.map a.eval ++ ys)) w := by
              unfold isBody at hbody
              split at hbody
              · rename_i fn hfn
                simp only [Bool.and_eq_true, bne_iff_ne, ne_eq] at hbody
                obtain ⟨bd, hbd⟩ := Option.isSome_iff_exists.1 hbody.1
                simp [execOp, ho, resolve, hf, hfe, Deferred.ofValue, invoke, callFunc, hfn, hbody.2, hbd]
              · cases hbody
            unfold Oper.wp
            rw [hrun]
            refine hcalls.mono ?_
            rintro e w' ⟨X', x, rfl, hg⟩
            exact hK X' w' x hg
          · split at h
            · rename_i x hne hargs
              cases ok0_some h
              obtain ⟨xs, ys, hfe, hl1, hl2, hr1, hr2⟩ := vr_fn (ev_vr hs hk)
              obtain ⟨ha1, ha2⟩ := evs_vr hs ha
              have hsz : args.length = (c.args.map a.eval).size := by simpa using ha1
              have hpt : ∀ (j : Nat) (u : V) (x : Value), (first ++ args ++ captured)[j]? = some u → (xs ++ c.args.map a.eval ++ ys)[j]? = some x → X.vr w u x := by
                intro j u x hj hx
                by_cases h1 : j < first.length
                · rw [List.append_assoc, List.getElem?_append_left h1] at hj
                  rw [Array.append_assoc, Array.getElem?_append_left (by omega)] at hx
                  exact hr1 j u x hj hx
                · by_cases h2 : j < first.length + args.length
                  · rw [List.append_assoc, List.getElem?_append_right (by omega), List.getElem?_append_left (by omega)] at hj
                    rw [Array.append_assoc, Array.getElem?_append_right (by omega), Array.getElem?_append_left (by omega)] at hx
                    rw [hl1] at hj
                    exact ha2 _ u x hj (by simpa using hx)
                  · rw [List.getElem?_append_right (by simp; omega)] at hj
                    rw [Array.getElem?_append_right (by rw [Array.size_append]; omega)] at hx
                    refine hr2 _ u x hj ?_
                    rw [← hx]
                    congr 1
                    rw [Array.size_append, List.length_append]; omega
              have hone : (first ++ args ++ captured).length = (xs ++ c.args.map a.eval ++ ys).size := by simp; simp at ha1; omega
              rw [hargs] at hone hpt
              obtain ⟨y, hy⟩ : ∃ y, xs ++ c.args.map a.eval ++ ys = #[y] := by
                generalize xs ++ c.args.map a.eval ++ ys = arr at hone
                obtain ⟨l⟩ := arr
                match l, hone with
                | [y], _ => exact ⟨y, rfl⟩
              refine does_same hl hob rfl rfl (z := y) ?_ (hpt 0 _ y rfl (by rw [hy]; rfl))
              unfold isNoEscape at hne
              split at hne
              · rename_i fn hfn
                simp only [Bool.and_eq_true, beq_iff_eq] at hne
                obtain ⟨⟨q1, q2⟩, q3⟩ := hne
                have hbd : fn.body = none := by simpa using q1
                have e1 : Extern.findNext fn = none := by
                  unfold Extern.findNext
                  rw [q2, q3]
                  rfl
                have e2 : Extern.find fn = some Extern.AbiNoEscape.same := by
                  unfold Extern.find
                  rw [q2]
                  rfl
                have hcf : (callFunc k #[y]).run E.P w = .ok (.value y) w := by
                  have e3 := Lib.run_noEscape (P := E.P) w y
                  have e4 : fn.name ≠ "runtime.NumGoroutine" := by rw [q2]; decide
                  simp [callFunc, hfn, hbd, e1, e2, e3, e4]
                simp [execOp, ho, resolve, hf, hfe, Deferred.ofValue, invoke, hy, hcf]
              · cases hne
            · cases h
        · cases h
      · cases h
    · cases h
  · cases h
end Go.Im
