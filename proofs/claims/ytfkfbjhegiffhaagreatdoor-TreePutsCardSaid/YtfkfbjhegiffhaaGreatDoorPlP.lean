/- Plain laws: programs as texts. -/
import Derived.Test.YtfkfbjhegiffhaaGreatDoorTrA2
import Derived.Test.YtfkfbjhegiffhaaGreatDoorPlM
set_option linter.unusedVariables false
set_option linter.unusedSimpArgs false
set_option maxRecDepth 10000
namespace Go.Im
theorem WS.up {d : Nat} {s : TreeStmt} (h : WS d s) : WS (d + 1) s := by
  induction h with
  | assign d t nm e ht hn he => exact .assign _ t nm e ht hn he
  | store d t nm i e ht hn hi he => exact .store _ t nm i e ht hn hi he
  | read d t nm ht hn => exact .read _ t nm ht hn
  | call d t nm fn l ht hn hf hl he => exact .call _ t nm fn l ht hn hf hl he
  | ifs d t e b c ht he hb hc wb wc ihb ihc => exact .ifs _ t e b c ht he hb hc ihb ihc
  | whil d t e b ht he hb wb ihb => exact .whil _ t e b ht he hb ihb
  | brk d t ht => exact .brk _ t ht
  | cont d t ht => exact .cont _ t ht
  | ret d t e ht he => exact .ret _ t e ht he
  | asrt d t e ht he => exact .asrt _ t e ht he
theorem WS.mono {d : Nat} {s : TreeStmt} (h : WS d s) : ∀ {d' : Nat}, d ≤ d' → WS d' s := by
  intro d' hd
  obtain ⟨k, rfl⟩ : ∃ k, d' = d + k := ⟨d' - d, by omega⟩
  induction k with
  | zero => exact h
  | succ k ih => exact (ih (by omega)).up
def declB (d : TreeDecl) : ByteArray := if d.Size > 0 then d.Name ++ { data := #[91] } ++ E.FormatInt d.Size ++ { data := #[93] } else d.Name
def jnB (l : List ByteArray) : ByteArray := (E.Join l ⟨#[44, 32]⟩).getD e0
/-- A function that is put. -/
def funT (f : TreeFunc) : List UInt8 :=
  lineT 0 [⟨#[102, 117, 110, 99, 32]⟩, f.Name, ⟨#[40]⟩, jnB f.Params, ⟨#[41, 32, 123]⟩] ++ (lineT 1 [⟨#[118, 97, 114, 32]⟩, jnB (f.Vars.map declB), ⟨#[59]⟩] ++ (txtL 1 f.Body ++ lineT 0 [⟨#[125]⟩]))
/-- A function that is made, as it is put. -/
structure FK (f : TreeFunc) : Prop where
  jp : E.Join f.Params ⟨#[44, 32]⟩ = some (jnB f.Params)
  decl : ∀ n, ∀ d ∈ f.Vars, S.tree_Decl_put n d = some (declB d)
  jv : E.Join (f.Vars.map declB) ⟨#[44, 32]⟩ = some (jnB (f.Vars.map declB))
  v0 : 0 < f.Vars.length
  v1 : f.Vars.length ≤ 100
  sz : (bl f.Name).length + (bl (jnB f.Params)).length + (bl (jnB (f.Vars.map declB))).length ≤ 200
  len : f.Body.length ≤ 14
  body : ∀ s ∈ f.Body, WS 2 s
theorem txtL_ws1 {dd d : Nat} {l : List TreeStmt} (h : ∀ s ∈ l, WS dd s) (hdd : dd ≤ 2) (hd : d ≤ 2) (hl : l.length ≤ 100) : (txtL d l).length ≤ 300000000 := by
  have h1 := txtL_bd (d := d) (B := 3000 * 31 ^ 2) l fun s hs => Nat.le_trans (txtS_bd (h s hs) d (by omega)) (Nat.mul_le_mul_left _ (Nat.pow_le_pow_right (by decide) hdd))
  have h2 : l.length * (3000 * 31 ^ 2) ≤ 100 * (3000 * 31 ^ 2) := Nat.mul_le_mul_right _ hl
  omega
theorem txtL_ws14 {l : List TreeStmt} (h : ∀ s ∈ l, WS 2 s) (hl : l.length ≤ 14) : (txtL 1 l).length ≤ 42000000 := by
  have h1 := txtL_bd (d := 1) (B := 3000 * 31 ^ 2) l fun s hs => txtS_bd (h s hs) 1 (by omega)
  have h2 : l.length * (3000 * 31 ^ 2) ≤ 14 * (3000 * 31 ^ 2) := Nat.mul_le_mul_right _ hl
  omega
theorem funT_len {f : TreeFunc} (hf : FK f) : (funT f).length ≤ 50000000 := by
  have h1 := txtL_ws14 hf.body hf.len
  have h2 := hf.sz
  simp only [funT, List.length_append, lineT_len, List.flatMap_cons, List.flatMap_nil, List.length_nil, bl] at h2 ⊢
  simp only [List.length_cons, List.length_nil]
  omega
theorem eu_decls {fs : List TreeFunc} {k i d : Int} {g : List UInt8} {f : TreeFunc} {ds : List TreeDecl} (hd : ∀ n, ∀ x ∈ ds, S.tree_Decl_put n x = some (declB x)) (hl : ds.length ≤ 100) :
    ∀ (m j : Nat) (out : List ByteArray), j + m = ds.length → out.length ≤ j → Eu (fun n => S.tree_Put_l1 n fs k i ds ((ds.length : Nat) : Int) (j : Int) d g f out) (fs, k, i, d, g, f, out ++ (ds.drop j).map declB) := by
  intro m
  induction m with
  | zero =>
    intro j out hj _
    refine Eu.succ (fun n => S.tree_Put_l1.eq_2 ..) (Eu.f (decide_eq_false (by omega)) (Eu.ret ?_))
    rw [List.drop_eq_nil_of_le (by omega)]; simp
  | succ m ih =>
    intro j out hj ho
    have hlt : j < ds.length := by omega
    rw [List.drop_eq_getElem_cons hlt]
    refine Eu.succ (fun n => S.tree_Put_l1.eq_2 ..) (Eu.t (decide_eq_true (by omega)) (Eu.t (inRm hlt) (Eu.bs (nat_get hlt) (Eu.bd (Eu.eq (fun n => hd n _ (List.getElem_mem hlt)) (Eu.ret rfl)) (Eu.t (decide_eq_true ?_) ?_)))))
    · simp only [List.length_map, List.length_cons, List.length_nil]
      show out.length + (0 + 1) ≤ 4294967296
      omega
    · rw [wrap_s (show j < 4611686018427387904 by omega)]
      refine (ih (j + 1) (out ++ [declB ds[j]]) (by omega) (by simp; omega)).cast ?_
      rw [List.map_cons, List.append_assoc]; rfl
theorem eu_fbody {f : TreeFunc} (hf : FK f) {g : List UInt8} (hg : g.length + (txtL 1 f.Body).length ≤ 1000000000) : Eu (fun n => S.tree_writer_block n f.Body ((0 : Nat) : Int) g) (((0 : Nat) : Int), g ++ txtL 1 f.Body) :=
  eu_block_of (by decide) (eu_stmts 2 1 _ _ (by decide) (by have := hf.len; omega) hf.body hg)
theorem eu_Put_l0 {fs : List TreeFunc} (hl : fs.length ≤ 10) (hf : ∀ f ∈ fs, FK f) : ∀ (m i : Nat) (g : List UInt8), i + m = fs.length → g.length ≤ 50000000 * i →
    Eu (fun n => S.tree_Put_l0v2 n fs ((fs.length : Nat) : Int) (i : Int) ((0 : Nat) : Int) g) (((0 : Nat) : Int), g ++ (fs.drop i).flatMap funT) := by
  intro m
  induction m with
  | zero =>
    intro i g hi _
    refine Eu.succ (fun n => S.tree_Put_l0v2.eq_2 ..) (Eu.f (decide_eq_false (by omega)) (Eu.ret ?_))
    rw [List.drop_eq_nil_of_le (by omega)]; simp
  | succ m ih =>
    intro i g hi hg
    have hlt : i < fs.length := by omega
    have hk := hf _ (List.getElem_mem hlt)
    have hlen := funT_len hk
    have hsplit : (funT fs[i]).length = (lineT 0 [⟨#[102, 117, 110, 99, 32]⟩, fs[i].Name, ⟨#[40]⟩, jnB fs[i].Params, ⟨#[41, 32, 123]⟩]).length + ((lineT 1 [⟨#[118, 97, 114, 32]⟩, jnB (fs[i].Vars.map declB), ⟨#[59]⟩]).length + ((txtL 1 fs[i].Body).length + (lineT 0 [⟨#[125]⟩]).length)) := by
      simp only [funT, List.length_append]
    rw [List.drop_eq_getElem_cons hlt]
    refine Eu.succ (fun n => S.tree_Put_l0v2.eq_2 ..) (Eu.t (decide_eq_true (by omega)) (Eu.t (inRm hlt) (Eu.bs (nat_get hlt) (Eu.bs hk.jp (Eu.bd (eu_line (d := 0) (by decide) (by simp) (by omega)) (Eu.t (inK_map (Nat.le_trans hk.v1 (by decide))) (Eu.bd (a := (fs, ((fs.length : Nat) : Int), (i : Int), ((0 : Nat) : Int), g ++ lineT 0 [⟨#[102, 117, 110, 99, 32]⟩, fs[i].Name, ⟨#[40]⟩, jnB fs[i].Params, ⟨#[41, 32, 123]⟩], fs[i], fs[i].Vars.map declB)) ?_ (Eu.t (inK_map (by rw [List.length_map]; exact Nat.le_trans hk.v1 (by decide))) (Eu.t (decide_eq_true ?_) (Eu.bs hk.jv (Eu.bd (eu_line (d := 1) (by decide) (by simp) ?_) (Eu.bd (eu_fbody hk ?_) (Eu.bd (eu_line (d := 0) (by decide) (by simp) ?_) ?_)))))))))))))
    · have := eu_decls (fs := fs) (k := ((fs.length : Nat) : Int)) (i := (i : Int)) (d := ((0 : Nat) : Int)) (g := g ++ lineT 0 [⟨#[102, 117, 110, 99, 32]⟩, fs[i].Name, ⟨#[40]⟩, jnB fs[i].Params, ⟨#[41, 32, 123]⟩]) (f := fs[i]) hk.decl hk.v1 fs[i].Vars.length 0 [] (by omega) (by simp)
      simp only [List.drop_zero, List.nil_append] at this
      rw [List.length_map]
      exact this
    · have := hk.v0
      simp only [List.length_map]; omega
    · simp only [List.length_append]; omega
    · simp only [List.length_append]; omega
    · simp only [List.length_append]; omega
    · dsimp only
      rw [wrap_s (show i < 4611686018427387904 by omega)]
      refine (ih (i + 1) _ (by omega) ?_).cast ?_
      · simp only [List.length_append]; omega
      · simp only [List.flatMap_cons, funT, List.append_assoc]
/-- What is put of a program. -/
theorem eu_Put {f : TreeFunc} {fs : List TreeFunc} (hl : fs.length ≤ 9) (hf : ∀ x ∈ f :: fs, FK x) : Eu (fun n => S.tree_Put n (TreeProg.mk (f :: fs))) (bs ((f :: fs).flatMap funT)) := by
  have hk := hf f (by simp)
  have hlen := funT_len hk
  have hsplit : (funT f).length = (lineT 0 [⟨#[102, 117, 110, 99, 32]⟩, f.Name, ⟨#[40]⟩, jnB f.Params, ⟨#[41, 32, 123]⟩]).length + ((lineT 1 [⟨#[118, 97, 114, 32]⟩, jnB (f.Vars.map declB), ⟨#[59]⟩]).length + ((txtL 1 f.Body).length + (lineT 0 [⟨#[125]⟩]).length)) := by
    simp only [funT, List.length_append]
  have hall : ∀ l : List TreeFunc, (∀ x ∈ l, FK x) → (l.flatMap funT).length ≤ 50000000 * l.length := fun l => by
    induction l with
    | nil => intro _; simp
    | cons a l ih =>
      intro h
      have h1 := funT_len (h a (by simp))
      have h2 := ih fun x hx => h x (by simp [hx])
      simp only [List.flatMap_cons, List.length_append, List.length_cons]; omega
  have htot := hall (f :: fs) hf
  simp only [List.length_cons] at htot
  refine Eu.eq (fun n => rfl) ?_
  have hLF : ((f :: fs).map TreeFunc.v).length = fs.length + 1 := by simp
  refine Eu.t (inK_map (by simp only [List.length_cons]; exact Nat.le_trans (Nat.succ_le_succ hl) (by decide))) (Eu.t (decide_eq_true (by rw [hLF]; omega)) (Eu.t (inRm (i := 0) (by simp)) (Eu.bs (a := f) rfl (Eu.bs hk.jp ?_))))
  simp only [line_eq]
  refine Eu.bd (eu_line (d := 0) (by decide) (by simp) (by simp only [List.length_nil]; omega)) (Eu.t (inK_map (Nat.le_trans hk.v1 (by decide))) (Eu.bd (a := (f :: fs, (((f :: fs).length : Nat) : Int), ((0 : Nat) : Int), ((0 : Nat) : Int), [] ++ lineT 0 [⟨#[102, 117, 110, 99, 32]⟩, f.Name, ⟨#[40]⟩, jnB f.Params, ⟨#[41, 32, 123]⟩], f, f.Vars.map declB)) ?_ (Eu.t (inK_map (by rw [List.length_map]; exact Nat.le_trans hk.v1 (by decide))) (Eu.t (decide_eq_true ?_) (Eu.bs hk.jv (Eu.bd (eu_line (d := 1) (by decide) (by simp) ?_) (Eu.bd (eu_fbody hk ?_) (Eu.bd (eu_line (d := 0) (by decide) (by simp) ?_) (Eu.bd (a := (((0 : Nat) : Int), (f :: fs).flatMap funT)) ?_ (Eu.bd (a := (bs ((f :: fs).flatMap funT), ((0 : Nat) : Int))) (Eu.eq (fun n => rfl) (Eu.t (inK_map ?_) (Eu.t (decide_eq_true rfl) (Eu.ret (by rw [textOf_bs]))))) (Eu.ret rfl)))))))))))
  · have := eu_decls (fs := f :: fs) (k := (((f :: fs).length : Nat) : Int)) (i := ((0 : Nat) : Int)) (d := ((0 : Nat) : Int)) (g := [] ++ lineT 0 [⟨#[102, 117, 110, 99, 32]⟩, f.Name, ⟨#[40]⟩, jnB f.Params, ⟨#[41, 32, 123]⟩]) (f := f) hk.decl hk.v1 f.Vars.length 0 [] (by omega) (by simp)
    simp only [List.drop_zero, List.nil_append] at this
    rw [List.length_map, List.length_map]
    exact this
  · have := hk.v0
    simp only [List.length_map]; omega
  · simp only [List.length_append, List.length_nil]; omega
  · simp only [List.length_append, List.length_nil]; omega
  · simp only [List.length_append, List.length_nil]; omega
  · dsimp only
    rw [wrap_s (show 0 < 4611686018427387904 by decide)]
    refine (eu_Put_l0 (by simp only [List.length_cons]; omega) hf fs.length (0 + 1) _ (by simp; omega) ?_).cast ?_
    · simp only [List.length_append, List.length_nil]; omega
    · simp only [List.flatMap_cons, funT, List.append_assoc, List.nil_append, Nat.zero_add, List.drop_succ_cons, List.drop_zero]
  · show ((f :: fs).flatMap funT).length ≤ 4611686018427387904
    omega
theorem FK.of {nm : ByteArray} {par : List ByteArray} {vars : List TreeDecl} {b : List TreeStmt} (jp : E.Join par ⟨#[44, 32]⟩ = some (jnB par)) (decl : ∀ d ∈ vars, S.tree_Decl_put 0 d = some (declB d)) (jv : E.Join (vars.map declB) ⟨#[44, 32]⟩ = some (jnB (vars.map declB)))
    (v0 : 0 < vars.length) (v1 : vars.length ≤ 100) (sz : (bl nm).length + (bl (jnB par)).length + (bl (jnB (vars.map declB))).length ≤ 200) (len : b.length ≤ 14) {dd : Nat} (hd : dd ≤ 2) (body : ∀ s ∈ b, WS dd s) : FK ⟨nm, par, vars, b⟩ :=
  ⟨jp, fun n d hd => decl d hd, jv, v0, v1, sz, len, fun s hs => (body s hs).mono hd⟩
def PAR0 : List ByteArray := [{ data := #[112] }]
def PAR1 : List ByteArray := [{ data := #[112] }, { data := #[113] }]
def VAR0 : List TreeDecl := [⟨{ data := #[114] }, 0⟩, ⟨{ data := #[122, 115] }, 2⟩]
def VAR1 : List TreeDecl := [⟨{ data := #[122, 115] }, 1⟩]
def VAR2 : List TreeDecl := [⟨{ data := #[97] }, 0⟩, ⟨{ data := #[98] }, 0⟩, ⟨{ data := #[99] }, 0⟩, ⟨{ data := #[100] }, 0⟩, ⟨{ data := #[120, 115] }, 3⟩, ⟨{ data := #[121, 115] }, 5⟩]
theorem made_fk {b0 b1 b2 : List TreeStmt} (h0 : b0.length ≤ 4 ∧ ∀ s ∈ b0, WS 1 s) (h1 : b1.length ≤ 3 ∧ ∀ s ∈ b1, WS 1 s) (h2 : b2.length ≤ 14 ∧ ∀ s ∈ b2, WS 2 s) : ∀ f ∈ (madeX b0 b1 b2).Funcs, FK f := by
  intro f hf
  have hf' : f = ⟨{ data := #[103] }, PAR0, VAR0, b0⟩ ∨ f = ⟨{ data := #[104] }, PAR1, VAR1, b1⟩ ∨ f = ⟨{ data := #[109, 97, 105, 110] }, [], VAR2, b2⟩ := by
    simp only [madeX, List.mem_cons, List.not_mem_nil, or_false] at hf
    exact hf
  rcases hf' with rfl | rfl | rfl
  · exact FK.of (by decide +kernel) (by decide +kernel) (by decide +kernel) (by decide) (by decide) (by decide +kernel) (by have := h0.1; omega) (dd := 1) (by decide) h0.2
  · exact FK.of (by decide +kernel) (by decide +kernel) (by decide +kernel) (by decide) (by decide) (by decide +kernel) (by have := h1.1; omega) (dd := 1) (by decide) h1.2
  · exact FK.of (by decide +kernel) (by decide +kernel) (by decide +kernel) (by decide) (by decide) (by decide +kernel) h2.1 (dd := 2) (by decide) h2.2
def madeT (b0 b1 b2 : List TreeStmt) : List UInt8 := (madeX b0 b1 b2).Funcs.flatMap funT
theorem eu_PutX {b0 b1 b2 : List TreeStmt} (h0 : b0.length ≤ 4 ∧ ∀ s ∈ b0, WS 1 s) (h1 : b1.length ≤ 3 ∧ ∀ s ∈ b1, WS 1 s) (h2 : b2.length ≤ 14 ∧ ∀ s ∈ b2, WS 2 s) : Eu (fun n => S.tree_Put n (madeX b0 b1 b2)) (bs (madeT b0 b1 b2)) :=
  eu_Put (show 2 ≤ 9 by decide) (made_fk h0 h1 h2)
end Go.Im
