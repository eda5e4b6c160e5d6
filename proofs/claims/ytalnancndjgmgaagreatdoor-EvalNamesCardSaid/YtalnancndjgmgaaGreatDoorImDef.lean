/- The ideal machine: values that hold immutable memory by value, own blocks by number, and its step. Definitions alone. -/
import Derived.Calls
import Derived.LoopN
namespace Go.Im
inductive V where
  | any
  | opq
  | bool (s b : Bool)
  | int (s : Bool) (k : IntKind) (n : Int)
  | str (s : Bool) (b : ByteArray)
  | nilp | nils | nilf | nili
  | iptr (e : V) (off : Nat)
  | isl (s : Bool) (xs : List V)
  | mptr (id i off : Nat)
  | msl (id i len : Nat)
  | osl (d : Bool) (id : Nat)
  | agg (cs : List V)
  | tup (vs : List V)
  | fn (f : Fn) (first captured : List V)
  | ifc (t : TypeId) (v : V)
  deriving Inhabited
def V.cells : V → List V
  | .agg cs => cs
  | v => [v]
/-- Of one cell, surely. -/
def V.one : V → Bool
  | .any | .agg _ | .tup _ => false
  | _ => true
mutual
/-- No block of the call's own is in it. -/
def V.pure : V → Bool
  | .mptr _ _ _ | .msl _ _ _ | .osl _ _ => false
  | .agg cs | .tup cs => pureL cs
  | .fn _ a b => pureL a && pureL b
  | .ifc _ v => v.pure
  | _ => true
def pureL : List V → Bool
  | [] => true
  | v :: vs => v.pure && pureL vs
end
structure Blk where
  es : List V
  sz : Nat
  sym : Bool := false
  dirty : Bool := false
  ty : Option TypeId := none
  lst : Bool := false
  lty : Option TypeId := none
abbrev Heap := List (Option Blk)
inductive Ex where
  | normal | exit (id : Nat) | ret
inductive Ev where
  | br (c : Bool)
  | at (k : Nat)
  | el (e : V)
  | els (e : V)
  | res (f : FuncId) (v : V) (H : Heap)
  | loop (slots ids : List Nat) (e : Option Nat) (kv : List (Nat × V)) (H : Heap)
  | cut (k : Nat) (slots ids : List Nat) (e : Ex) (kv : List (Nat × V)) (H : Heap)
  | soft
structure Cx where
  imm : List Nat := []
  mus : List Nat := []
  gro : List Nat := []
  keep : List FuncId := []
  keepRes : Bool := false
  ext : Bool := false
  frz : List Nat := []
structure St where
  T : List V
  H : Heap
  ps : List Ev
  ob : Prop
/-- What an operation does: its value, the blocks that it changes, what it makes, what it looked at. -/
structure Out where
  v : V
  upd : List (Nat × Option Blk)
  new : List (Option Blk)
  fp : List Nat
  ps : List Ev
  ob : Prop
def ask (s b : Bool) (ps : List Ev) (ob : Prop) : Option (Bool × List Ev × Prop) :=
  match s with
  | false => some (b, ps, ob)
  | true => match ps with
    | .br c :: ps => some (c, ps, ob ∧ b = c)
    | .at 0 :: ps => some (true, ps, ob ∧ b = true)
    | .at 1 :: ps => some (false, ps, ob ∧ b = false)
    | _ => none
/-- It must be so. -/
def must (s b : Bool) (ps : List Ev) (ob : Prop) : Option (List Ev × Prop) :=
  match ask s b ps ob with
  | some (true, ps, ob) => some (ps, ob)
  | _ => none
def kLo : IntKind → Int
  | .i8 => -128
  | .i16 => -32768
  | .i32 => -2147483648
  | .i64 => -9223372036854775808
  | _ => 0
def kHi : IntKind → Int
  | .i8 => 127
  | .i16 => 32767
  | .i32 => 2147483647
  | .i64 => 9223372036854775807
  | .u8 => 255
  | .u16 => 65535
  | .u32 => 4294967295
  | .u64 => 18446744073709551615
/-- Is it a number of the kind? -/
def inK (k : IntKind) (n : Int) : Bool := decide (kLo k ≤ n) && decide (n ≤ kHi k)
/-- What an operation comes to. -/
def ofRes (ar : Bool) : Value → Option V
  | .bool b => some (.bool false b)
  | .int k n => match ar with
    | true => some (.int false k n)
    | false => none
  | .string s => some (.str false s)
  | _ => none
def arithOp : BinOp → Bool
  | .add | .sub | .mul | .and | .or | .xor | .andNot => true
  | _ => false
def ofScalar : Value → Option V
  | .bool b => some (.bool false b)
  | .int k n => match inK k n with
    | true => some (.int false k n)
    | false => none
  | .string s => some (.str false s)
  | .pointer none => some .nilp
  | .slice none 0 0 => some .nils
  | .nilFunc => some .nilf
  | .nilIface => some .nili
  | _ => none
def ofList : List Value → Option (List V)
  | [] => some []
  | x :: xs => match ofScalar x, ofList xs with
    | some v, some vs => some (v :: vs)
    | _, _ => none
def ofVal : Value → Option V
  | .agg cs => (ofList cs.toList).map .agg
  | .tuple cs => (ofList cs.toList).map .tup
  | x => ofScalar x
/-- As a value of the model; and whether it is a symbol. -/
def toScalar : V → Option (Bool × Value)
  | .bool s b => some (s, .bool b)
  | .int s k n => some (s, .int k n)
  | .str s b => some (s, .string b)
  | _ => none
def mark (s : Bool) : V → V
  | .bool _ b => .bool s b
  | .int _ k n => .int s k n
  | .str _ b => .str s b
  | v => v
def pureRun {α : Type} (P : Program) : Sem α → Option α
  | .pure a => some a
  | .program k => pureRun P (k P)
  | _ => none
def ev (T : List V) : Operand → Option V
  | .tmp t => T[t]?
  | .const v => ofVal v
  | .global _ => none
  | .func f => some (.fn (.func f) [] [])
def evs (T : List V) : List Operand → Option (List V)
  | [] => some []
  | x :: xs => match ev T x, evs T xs with
    | some v, some vs => some (v :: vs)
    | _, _ => none
abbrev Look := Nat → Option Blk
mutual
/-- The freezing of slices of the caller's own: what is handed on by value. n: depth; res: pointers too. -/
def fz (look : Look) (res : Nat → Bool) : Nat → V → Option (V × List Nat)
  | 0, _ => none
  | n + 1, v => match v with
    | .msl id i len => match look id with
      | some b => match b.sym with
        | true => if b.es.length = len ∧ i = 0 then some (.isl true b.es, [id]) else none
        | false => if i + len ≤ b.es.length then match fzL look res n ((b.es.drop i).take len) with
          | some (xs, ids) => if pureL xs then some (.isl false xs, id :: ids) else none
          | none => none
          else none
      | none => none
    | .mptr id i off => match res id with
      | true => match look id with
        | some b => match b.es[i]? with
          | some e => match fz look res n e with
            | some (e, ids) => if pureL e.cells ∧ b.sym = false then some (.iptr e off, id :: ids) else none
            | none => none
          | none => none
        | none => none
      | false => some (.mptr id i off, [])
    | .osl false id => match look id with
      | some b => match b.lst with
        | true => match b.sym with
          | true => some (.isl true b.es, [id])
          | false => match fzL look res n b.es with
            | some (xs, ids) => if pureL xs then some (.isl false xs, id :: ids) else none
            | none => none
        | false => none
      | none => none
    | .nils => some (.isl false [], [])
    | .agg cs => match fzL look res n cs with
      | some (cs, ids) => some (.agg cs, ids)
      | none => none
    | .tup cs => match fzL look res n cs with
      | some (cs, ids) => some (.tup cs, ids)
      | none => none
    | .osl true _ => none
    | .any => none
    | v => some (v, [])
def fzL (look : Look) (res : Nat → Bool) : Nat → List V → Option (List V × List Nat)
  | 0, _ => none
  | _ + 1, [] => some ([], [])
  | n + 1, x :: xs => match fz look res n x, fzL look res n xs with
    | some (x, i), some (xs, j) => some (x :: xs, i ++ j)
    | _, _ => none
end
def reach (look : Look) : Nat → List V → List Nat → Option (List Nat)
  | 0, _, _ => none
  | _ + 1, [], acc => some acc
  | n + 1, v :: vs, acc => match v with
    | .mptr id _ _ | .msl id _ _ | .osl _ id => match acc.contains id with
      | true => reach look n vs acc
      | false => match look id with
        | some b => reach look n (match b.sym with | true => vs | false => b.es ++ vs) (acc ++ [id])
        | none => none
    | .agg cs | .tup cs => reach look n (cs ++ vs) acc
    | .fn _ a b => reach look n (a ++ (b ++ vs)) acc
    | .ifc _ v => reach look n (v :: vs) acc
    | _ => reach look n vs acc
mutual
def ren (f : Nat → Option Nat) : V → V
  | .mptr id i off => match f id with | some j => .mptr j i off | none => .any
  | .msl id i len => match f id with | some j => .msl j i len | none => .any
  | .osl d id => match f id with | some j => .osl d j | none => .any
  | .agg cs => .agg (renL f cs)
  | .tup cs => .tup (renL f cs)
  | .fn g a b => .fn g (renL f a) (renL f b)
  | .ifc t v => .ifc t (ren f v)
  | v => v
def renL (f : Nat → Option Nat) : List V → List V
  | [] => []
  | v :: vs => ren f v :: renL f vs
end
def renB (f : Nat → Option Nat) (d : Bool) (b : Blk) : Blk := { b with es := (match b.sym with | true => b.es | false => renL f b.es), dirty := d }
mutual
/-- Each block in it has a new number. -/
def okV (f : Nat → Option Nat) : V → Bool
  | .mptr id _ _ | .msl id _ _ | .osl _ id => (f id).isSome
  | .agg cs | .tup cs => okVs f cs
  | .fn _ a b => okVs f a && okVs f b
  | .ifc _ v => okV f v
  | _ => true
def okVs (f : Nat → Option Nat) : List V → Bool
  | [] => true
  | v :: vs => okV f v && okVs f vs
end
def nodupB : List Nat → Bool
  | [] => true
  | x :: xs => !xs.contains x && nodupB xs
def indexOf (m : List Nat) (id : Nat) : Option Nat := m.idxOf? id
structure Env where
  P : Program
  cx : Cx
  call : FuncId → List V → Heap → Option (V × Heap)
  sim : FuncId → List V → Heap → V → Heap → Prop
  loop : Code → List V → Heap → Ex → List V → Heap → Prop := fun _ _ _ _ _ _ => False
  code : Code → List V → Heap → Ex → List V → Heap → Prop := fun _ _ _ _ _ _ => False
def fzArgs (look : Look) (keep : Bool) : List V → Option (List V × List Nat)
  | [] => some ([], [])
  | v :: vs => match (if keep then some (v, []) else fz look (fun _ => false) 10000 v), fzArgs look keep vs with
    | some (x, i), some (xs, j) => some (x :: xs, i ++ j)
    | _, _ => none
def backUpd (_m : List Nat) (back : Nat → Option Nat) : List Nat → Heap → List (Nat × Option Blk)
  | id :: ids, some b :: Hs => if b.dirty then (id, some (renB back true b)) :: backUpd [] back ids Hs else backUpd [] back ids Hs
  | id :: ids, none :: Hs => (id, none) :: backUpd [] back ids Hs
  | _, _ => []
def blkOk (f : Nat → Option Nat) (b : Option Blk) : Bool := match b with
  | some b => match b.sym with
    | true => true
    | false => okVs f b.es
  | none => false
def backOf (m : List Nat) (nid : Nat) : Nat → Option Nat := fun j => match m[j]? with | some id => some id | none => some (nid + (j - m.length))
def fin (nid : Nat) (m kills : List Nat) (v : V) (H' : Heap) (ps : List Ev) (ob : Prop) : Option Out :=
  if m.length ≤ H'.length then
    some ⟨ren (backOf m nid) v, (kills.map fun id => (id, none)) ++ backUpd [] (backOf m nid) m H', (H'.drop m.length).map (·.map (renB (backOf m nid) true)), kills ++ m, ps, ob⟩
  else none
/-- An answer that is told of f: the first such event. -/
def resOf (f : FuncId) : List Ev → Option (V × Heap × List Ev)
  | [] => none
  | e :: ps => match e with
    | .res g v H => match f == g with
      | true => some (v, H, ps)
      | false => match resOf f ps with
        | some (v', H', ps') => some (v', H', e :: ps')
        | none => none
    | _ => match resOf f ps with
      | some (v', H', ps') => some (v', H', e :: ps')
      | none => none
def doCall (E : Env) (look : Look) (nid : Nat) (ps : List Ev) (ob : Prop) (f : FuncId) (args : List V) : Option Out :=
  match fzArgs look (E.cx.keep.contains f) args with
  | none => none
  | some (vals, kills) =>
    let look' : Look := fun id => if kills.contains id then none else look id
    match reach look' 10000 vals [] with
    | none => none
    | some m =>
      let Hs : Heap := m.map fun id => (look' id).map (renB (indexOf m) false)
      let vals' := renL (indexOf m) vals
      if nodupB m && m.all (fun id => blkOk (indexOf m) (look' id)) then
        match resOf f ps with
        | some (v, H', ps) => fin nid m kills v H' ps (ob ∧ E.sim f vals' Hs v H')
        | none => match E.call f vals' Hs with
          | some (v, H') => fin nid m kills v H' ps ob
          | none => none
      else none
def ok0 (v : V) (ps : List Ev) (ob : Prop) : Option Out := some ⟨v, [], [], [], ps, ob⟩
def aggD : TypeDesc → Bool
  | .struct _ | .array _ _ => true
  | _ => false
/-- Part of cells, as a value of the type t. -/
def partOf (P : Program) (t : TypeId) (e : V) (off : Nat) : Option V :=
  match P.underlying t with
  | none => none
  | some d => match aggD d with
    | true => match e with
      | .agg cs => if off + P.cellsOf t ≤ cs.length then some (.agg ((cs.drop off).take (P.cellsOf t))) else none
      | _ => none
    | false => e.cells[off]?
def splice (cs : List V) (off : Nat) (vs : List V) : List V := cs.take off ++ vs ++ cs.drop (off + vs.length)
/-- A cell's, or cells', new value. -/
def putIn (e : V) (off : Nat) (v : V) : Option V :=
  if v.cells.all V.one then
    match e with
    | .agg cs => if off + v.cells.length ≤ cs.length then some (.agg (splice cs off v.cells)) else none
    | .any => none
    | _ => if off = 0 ∧ v.cells.length = 1 then some v else none
  else none
def inRange (i : Int) (n : Nat) : Bool := decide (0 ≤ i) && decide (i < n)
mutual
/-- As a symbol. -/
def symV : V → V
  | .bool _ b => .bool true b
  | .int _ k n => .int true k n
  | .str _ b => .str true b
  | .agg cs => .agg (symL cs)
  | .tup cs => .tup (symL cs)
  | v => v
def symL : List V → List V
  | [] => []
  | v :: vs => symV v :: symL vs
end
def elemAt (s : Bool) (xs : List V) (i : Nat) (ps : List Ev) (ob : Prop) : Option (V × List Ev × Prop) :=
  match s with
  | false => (xs[i]?).map (·, ps, ob)
  | true => match ps with
    | .el e :: ps => some (e, ps, ob ∧ xs[i]? = some e)
    | .els e :: ps => some (e, ps, ob ∧ (xs.map symV)[i]? = some e)
    | .at k :: ps => match xs[k]? with
      | some e => some (e, ps, ob ∧ (i == k) = true)
      | none => none
    | _ => none
def lstOf (look : Look) (id : Nat) : Option Blk := match look id with
  | some b => match b.lst with
    | true => some b
    | false => none
  | none => none
def isByte : V → Bool
  | .int _ .u8 _ => true
  | _ => false
def byteOf : V → UInt8
  | .int _ _ n => UInt8.ofNat n.toNat
  | _ => 0
/-- The text of bytes. -/
def textOf (xs : List V) : ByteArray := ⟨(xs.map byteOf).toArray⟩
/-- The bytes of a text. -/
def bytesV (s : Bool) (b : ByteArray) : List V := b.data.toList.map fun c => .int s .u8 c.toNat
def opLoad (P : Program) (look : Look) (t : TypeId) (p : V) (ps : List Ev) (ob : Prop) : Option Out :=
  match p with
  | .iptr e off => match partOf P t e off with
    | some v => ok0 v ps ob
    | none => none
  | .mptr id i off => match look id with
    | some b => match elemAt b.sym b.es i ps ob with
      | some (e, ps, ob) => match partOf P t e off with
        | some v => some ⟨v, [], [], [id], ps, ob⟩
        | none => none
      | none => none
    | none => none
  | _ => none
def opStore (P : Program) (look : Look) (t : TypeId) (p v : V) (ps : List Ev) (ob : Prop) : Option Out :=
  match p with
  | .mptr id i off => if v.cells.length = P.cellsOf t ∧ 0 < v.cells.length ∧ (P.info? t).isSome then match look id with
    | some b => if b.sym then none else match b.es[i]? with
      | some e => match putIn e off v with
        | some e' => some ⟨.tup [], [(id, some { b with es := b.es.set i e', dirty := true })], [], [id], ps, ob⟩
        | none => none
      | none => none
    | none => none
    else none
  | _ => none
def zeroV (P : Program) (t : TypeId) : Option V := ((P.info? t).bind (·.zero)).bind ofVal
def fieldsOf (P : Program) (t : TypeId) : Option (Array Field) := match P.underlying t with
  | some (.struct fs) => some fs
  | _ => none
/-- What is put into cells, one behind the other. -/
def fillV (place : Nat → Option (Nat × Nat)) : List V → List (Nat × V) → Option (List V)
  | cs, [] => some cs
  | cs, (i, v) :: rest => match place i with
    | none => none
    | some (off, size) => if v.cells.length = size ∧ off + size ≤ cs.length ∧ v.cells.all V.one = true then fillV place (splice cs off v.cells) rest else none
def partsV (T : List V) : List (Nat × Operand) → Option (List (Nat × V))
  | [] => some []
  | (i, x) :: xs => match ev T x, partsV T xs with
    | some v, some vs => some ((i, v) :: vs)
    | _, _ => none
def opBuild (P : Program) (t : TypeId) (parts : List (Nat × V)) : Option V :=
  match P.underlying t with
  | some (.struct fs) => match fs.toList.mapM (fun f => (P.info? f.type).map fun i => (f.offset, i.size)), zeroV P t with
    | some places, some (.agg zero) => (fillV (places.toArray[·]?) zero parts).map .agg
    | _, _ => none
  | some (.array _ e) => match P.info? e, zeroV P t with
    | some ie, some (.agg zero) => (fillV (fun i => some (i * ie.size, ie.size)) zero parts).map .agg
    | _, _ => none
  | _ => none
/-- What is put at places of a slice. -/
def fillS (sz : Nat) : List V → List (Nat × V) → Option (List V)
  | es, [] => some es
  | es, (i, v) :: rest => if i < es.length ∧ v.cells.length = sz ∧ v.cells.all V.one = true then fillS sz (es.set i v) rest else none
def lenFp : V → List Nat
  | .osl _ id => [id]
  | _ => []
def lenV (look : Look) : TypeDesc → V → Option (Bool × Nat)
  | .string, .str s b => some (s, b.size)
  | .slice _, .isl s xs => some (s, xs.length)
  | .slice _, .nils => some (false, 0)
  | .slice _, .msl _ _ len => some (false, len)
  | .slice _, .osl false id => match lstOf look id with
    | some b => some (b.sym, b.es.length)
    | none => none
  | _, _ => none
def minV (op : Bool) : V → List V → Option V
  | v, [] => some v
  | .int s k x, .int s' k' y :: rest => if k = k' then minV op (.int (s || s') k (if op then (if y < x then y else x) else (if y > x then y else x))) rest else none
  | _, _ => none
def mslEs (b : Blk) (i len : Nat) : Option (List V) := if b.sym = false ∧ i + len ≤ b.es.length then some ((b.es.drop i).take len) else none
/-- Of an append: the cells that were, and whether there are any of the call's own: their number. -/
def appBase (look : Look) (sz : Nat) : V → Option (List V × List Nat)
  | .nils => some ([], [])
  | .msl id i len => match look id with
    | some b => if b.sz = sz then match mslEs b i len with
        | some xs => some (xs, [id])
        | none => none
      else none
    | none => none
  | _ => none
def appSrc (look : Look) (sz : Nat) : V → Option (Bool × List V × List Nat)
  | .nils => some (false, [], [])
  | .isl s xs => some (s, xs, [])
  | .msl id i len => match look id with
    | some b => if b.sz = sz then match mslEs b i len with
        | some xs => some (false, xs, [id])
        | none => none
      else none
    | none => none
  | .osl false id => match lstOf look id with
    | some b => if b.sz = sz then some (b.sym, b.es, [id]) else none
    | none => none
  | .str s b => if sz = 1 then some (s, bytesV s b, []) else none
  | _ => none
def srcOk : TypeDesc → V → Bool
  | .slice _, .str _ _ => false
  | .slice _, _ => true
  | .string, .str _ _ => true
  | _, _ => false
/-- A type of one byte. -/
def byteT (P : Program) (e : TypeId) : Bool := match P.underlying e with
  | some (.int .u8) => P.cellsOf e == 1
  | _ => false
/-- Is a symbol in it? -/
def symE (xs : List V) : Bool := xs.any fun v => match v with
  | .int s _ _ => s
  | _ => true
def maxApp : Nat := 4294967296
def okElems (P : Program) (elem : TypeId) (es : List V) : Bool := es.all fun e => e.cells.length == P.cellsOf elem && e.cells.all V.one
def zeroOk (P : Program) (elem : TypeId) : Bool := match zeroV P elem with
  | some z => z.cells.length == P.cellsOf elem && z.cells.all V.one && decide (0 < P.cellsOf elem) && decide (P.bytesOf elem ≤ 4096)
  | none => false
/-- xs and ys behind them: ids: the block of xs; s: ys is a symbol. -/
def opAppend (P : Program) (nid : Nat) (elem : TypeId) (xs : List V) (ids : List Nat) (s : Bool) (ys : List V) (js : List Nat) (ps : List Ev) (ob : Prop) : Option Out :=
  let made (ps : List Ev) (ob : Prop) : Option Out :=
    match must s (okElems P elem ys && decide (xs.length + ys.length ≤ maxApp)) ps ob with
    | some (ps, ob) =>
      if zeroOk P elem ∧ okElems P elem xs ∧ (ids.all fun i => !js.contains i) then
        some ⟨.msl nid 0 (xs.length + ys.length), ids.map (·, none), [some { es := xs ++ ys, sz := P.cellsOf elem, dirty := true, lty := some elem }], ids ++ js, ps, ob⟩
      else none
    | none => none
  match ids with
  | [] => match ask s ys.isEmpty ps ob with
    | some (true, ps, ob) => if zeroOk P elem then some ⟨.nils, [], [], js, ps, ob⟩ else none
    | some (false, ps, ob) => made ps ob
    | none => none
  | _ => made ps ob
/-- What a list of the call's own is, of which an append goes on: is it a symbol, its elements, its number, its type. -/
def appBaseO (look : Look) (sz : Nat) (g : Bool) : V → Option (Bool × List V × List Nat × Option TypeId)
  | .nils => match g with
    | true => some (false, [], [], none)
    | false => none
  | .osl false id => match lstOf look id with
    | some b => if b.sz = sz then some (b.sym, b.es, [id], b.lty) else none
    | none => none
  | _ => none
def isO (g : Bool) : V → Bool
  | .nils => g
  | .osl false _ => true
  | _ => false
def ltyOf (ids : List Nat) (elem : TypeId) (t : Option TypeId) : Option TypeId := match ids with
  | [] => some elem
  | _ => if t = some elem then some elem else none
def opAppO (P : Program) (nid : Nat) (elem : TypeId) (bs : Bool) (xs : List V) (ids : List Nat) (t : Option TypeId) (s : Bool) (ys : List V) (js : List Nat) (ps : List Ev) (ob : Prop) : Option Out :=
  match must (bs || s) (okElems P elem xs && okElems P elem ys && decide (xs.length + ys.length ≤ maxApp) && (!(bs || s) || (pureL xs && pureL ys))) ps ob with
  | some (ps, ob) =>
    if zeroOk P elem ∧ (ids.all fun i => !js.contains i) then
      some ⟨.osl false nid, ids.map (·, none), [some { es := xs ++ ys, sz := P.cellsOf elem, sym := bs || s, lst := true, dirty := true, lty := ltyOf ids elem t }], ids ++ js, ps, ob⟩
    else none
  | none => none
def opBuiltin (E : Env) (look : Look) (nid : Nat) (g : Bool) (b : Builtin) (ts : Array TypeId) (args : List V) (ps : List Ev) (ob : Prop) : Option Out :=
  match b, args with
  | .len, [x] => match (ts[0]?).bind E.P.underlying with
    | some d => match lenV look d x with
      | some (s, n) => match must s (inK .i64 n) ps ob with
        | some (ps, ob) => some ⟨.int s .i64 n, [], [], lenFp x, ps, ob⟩
        | none => none
      | none => none
    | none => none
  | .min, x :: xs => match minV true x xs with
    | some v => ok0 v ps ob
    | none => none
  | .max, x :: xs => match minV false x xs with
    | some v => ok0 v ps ob
    | none => none
  | .append, [s, x] => match (ts[0]?).bind E.P.underlying, (ts[1]?).bind E.P.underlying with
    | some (.slice elem), some d1 => match srcOk d1 x with
      | true => match isO g s with
        | true => match appBaseO look (E.P.cellsOf elem) g s, appSrc look (E.P.cellsOf elem) x with
          | some (bs, xs, ids, t), some (sy, ys, js) => opAppO E.P nid elem bs xs ids t sy ys js ps ob
          | _, _ => none
        | false => match appBase look (E.P.cellsOf elem) s, appSrc look (E.P.cellsOf elem) x with
          | some (xs, ids), some (sy, ys, js) => opAppend E.P nid elem xs ids sy ys js ps ob
          | _, _ => none
      | false => none
    | _, _ => none
  | .unsafeSliceData, [.osl false id] => match lstOf look id with
    | some _ => some ⟨.osl true id, [], [], [id], ps, ob⟩
    | none => none
  | .unsafeSliceData, [.nils] => ok0 .nilp ps ob
  | .unsafeString, [.nilp, .int s .i64 n] => match ts[0]?, must s (decide (n = 0)) ps ob with
    | some _, some (ps, ob) => ok0 (.str false ByteArray.empty) ps ob
    | _, _ => none
  | .unsafeString, [.osl true id, .int s .i64 n] => match lstOf look id, (ts[0]?).bind E.P.underlying with
    | some b, some (.pointer e) => match must (b.sym || s) (decide (n = (b.es.length : Int)) && b.es.all isByte) ps ob with
      | some (ps, ob) => if b.lty = some e ∧ b.sz = 1 ∧ byteT E.P e = true then some ⟨.str (b.sym || symE b.es) (textOf b.es), [(id, none)], [], [id], ps, ob⟩ else none
      | none => none
    | _, _ => none
  | _, _ => none
def wantedV (ops : Array Oper) (T : List V) (o : Oper) (ps : List Ev) (ob : Prop) : Option (Bool × List Ev × Prop) :=
  match o.guard with
  | none => some (true, ps, ob)
  | some (j, want) => match ((ops[j]?).bind (·.dst)).bind (T[·]?) with
    | some (.bool s b) => match ask s b ps ob with
      | some (c, ps, ob) => some (c == want, ps, ob)
      | none => none
    | some (.tup []) => some (false, ps, ob)
    | _ => none
def eqF (g : TypeId → V → V → Option (Bool × Bool)) (P : Program) (x y : V) : List Field → Option (Bool × Bool)
  | [] => some (false, true)
  | f :: fs => if f.name = "_" then eqF g P x y fs else
    match partOf P f.type x f.offset, partOf P f.type y f.offset with
    | some a, some b => match g f.type a b, eqF g P x y fs with
      | some (s, r), some (s', r') => some (s || s', r && r')
      | _, _ => none
    | _, _ => none
/-- Are two the same? -/
def eqT (P : Program) : Nat → TypeId → V → V → Option (Bool × Bool)
  | 0, _, _, _ => none
  | d + 1, t, x, y => match P.underlying t, x, y with
    | some .bool, .bool s a, .bool s' b => some (s || s', a == b)
    | some (.int _), .int s k a, .int s' k' b => if k = k' then some (s || s', a == b) else none
    | some .string, .str s a, .str s' b => some (s || s', a.toList == b.toList)
    | some (.pointer _), .nilp, .nilp => some (false, true)
    | some (.pointer t), .mptr i a b, .mptr i' a' b' => if i = i' ∧ a = a' ∧ b = b' ∧ (P.info? t).isSome then some (false, true) else none
    | some (.pointer _), .iptr _ _, .nilp | some (.pointer _), .nilp, .iptr _ _ | some (.pointer _), .mptr _ _ _, .nilp | some (.pointer _), .nilp, .mptr _ _ _ => some (false, false)
    | some (.slice _), .nils, .nils => some (false, true)
    | some (.slice _), .msl _ _ _, .nils | some (.slice _), .nils, .msl _ _ _ => some (false, false)
    | some (.func _ _ _), .nilf, .nilf => some (false, true)
    | some (.func _ _ _), .fn _ _ _, .nilf | some (.func _ _ _), .nilf, .fn _ _ _ => some (false, false)
    | some (.interface _), .ifc _ _, .nili | some (.interface _), .nili, .ifc _ _ => some (false, false)
    | some (.struct fs), .agg xs, .agg ys => if P.stoodInHeld t then none else eqF (eqT P d) P (.agg xs) (.agg ys) fs.toList
    | _, _, _ => none
def guardOk (P : Program) (t : TypeId) : V → Bool
  | .agg _ => !P.eqGuardType P.depth t
  | _ => true
def opBin (P : Program) (op : BinOp) (t : TypeId) (x y : V) (ps : List Ev) (ob : Prop) : Option Out :=
  match op, x, y with
  | .quo, .int s k a, .int s' k' b => if k = k' then match must s' (b != 0) ps ob with
      | some (ps, ob) => ok0 (.int (s || s') k (k.wrap (a.tdiv b))) ps ob
      | none => none
    else none
  | .rem, .int s k a, .int s' k' b => if k = k' then match must s' (b != 0) ps ob with
      | some (ps, ob) => ok0 (.int (s || s') k (a.tmod b)) ps ob
      | none => none
    else none
  | .shl, .int s k a, .int s' _ b => match must s' (decide (0 ≤ b)) ps ob with
      | some (ps, ob) => ok0 (.int (s || s') k (k.wrap (a * 2 ^ min b.toNat k.bits))) ps ob
      | none => none
  | .shr, .int s k a, .int s' _ b => match must s' (decide (0 ≤ b)) ps ob with
      | some (ps, ob) => ok0 (.int (s || s') k (a.fdiv (2 ^ min b.toNat k.bits))) ps ob
      | none => none
  | .add, .str s a, .str s' b => match must (s || s') (decide (((a.size + b.size : Nat) : Int) ≤ 9223372036854775807)) ps ob with
      | some (ps, ob) => ok0 (.str (s || s') (a ++ b)) ps ob
      | none => none
  | op, x, y => match toScalar x, toScalar y with
    | some (s, a), some (s', b) => match pureRun P (binOp op t a b) with
      | some v => match ofRes (arithOp op) v with
        | some v => ok0 (mark (s || s') v) ps ob
        | none => none
      | none => none
    | _, _ => match op, eqT P 10000 t x y with
      | .eql, some (s, b) => if guardOk P t x then ok0 (.bool s b) ps ob else none
      | .neq, some (s, b) => if guardOk P t x then ok0 (.bool s !b) ps ob else none
      | _, _ => none
/-- An index that is asked for. -/
def idxAt (s : Bool) (i : Nat) (ps : List Ev) (ob : Prop) : Option (Nat × List Ev × Prop) :=
  match s with
  | false => some (i, ps, ob)
  | true => match ps with
    | .at k :: ps => some (k, ps, ob ∧ (i == k) = true)
    | _ => none
def opIndexAddr (P : Program) (look : Look) (t : TypeId) (x i : V) (ps : List Ev) (ob : Prop) : Option Out :=
  match P.underlying t, x, i with
  | some (.slice elem), .isl s xs, .int s' _ i => match must (s || s') (inRange i xs.length) ps ob with
    | some (ps, ob) => match elemAt (s || s') xs i.toNat ps ob with
      | some (e, ps, ob) => if e.cells.length = P.cellsOf elem ∧ 0 < P.cellsOf elem then ok0 (.iptr e 0) ps ob else none
      | none => none
    | none => none
  | some (.slice elem), .msl id j len, .int s' _ i => match must s' (inRange i len) ps ob with
    | some (ps, ob) => match look id with
      | some b => match idxAt (!b.sym && s') i.toNat ps ob with
        | some (k, ps, ob) => if b.sz = P.cellsOf elem ∧ 0 < P.cellsOf elem then some ⟨.mptr id (j + k) 0, [], [], [id], ps, ob⟩ else none
        | none => none
      | none => none
    | none => none
  | some (.slice elem), .osl false id, .int s' _ i => match lstOf look id with
    | some b => match must (b.sym || s') (inRange i b.es.length) ps ob with
      | some (ps, ob) => match idxAt (!b.sym && s') i.toNat ps ob with
        | some (k, ps, ob) => if b.sz = P.cellsOf elem ∧ 0 < P.cellsOf elem then some ⟨.mptr id k 0, [], [], [id], ps, ob⟩ else none
        | none => none
      | none => none
    | none => none
  | some (.array len elem), .mptr id j off, .int s' _ i => if 0 < P.cellsOf elem then match must s' (inRange i len) ps ob with
      | some (ps, ob) => ok0 (.mptr id j (off + i.toNat * P.cellsOf elem)) ps ob
      | none => none
    else none
  | some (.array len elem), .iptr e off, .int s' _ i => if 0 < P.cellsOf elem then match must s' (inRange i len) ps ob with
      | some (ps, ob) => ok0 (.iptr e (off + i.toNat * P.cellsOf elem)) ps ob
      | none => none
    else none
  | _, _, _ => none
def optInt (T : List V) : Option Operand → Option (Option (Bool × Int))
  | none => some none
  | some x => match ev T x with
    | some (.int s _ n) => some (some (s, n))
    | _ => none
/-- x[l:h] with bounds from 0 to n. -/
def cutV (n : Nat) (s : Bool) (l h : Option (Bool × Int)) (ps : List Ev) (ob : Prop) : Option (Bool × Nat × Nat × List Ev × Prop) :=
  let (sl, l) := l.getD (false, 0)
  let (sh, h) := h.getD (s, (n : Int))
  match must (s || sl || sh) (decide (0 ≤ l) && decide (l ≤ h) && decide (h ≤ n)) ps ob with
  | some (ps, ob) => some (s || sl || sh, l.toNat, h.toNat, ps, ob)
  | none => none
def opSlice (P : Program) (look : Look) (elem : TypeId) (x : V) (l h : Option (Bool × Int)) (ps : List Ev) (ob : Prop) : Option Out :=
  let n := P.cellsOf elem
  if n = 0 then none else
  match x with
  | .isl s xs => match cutV xs.length s l h ps ob with
    | some (s', l, h, ps, ob) => match s with
      | true => ok0 (.isl s' ((xs.drop l).take (h - l))) ps (ob ∧ ∀ e ∈ xs, e.cells.length = n)
      | false => if xs.all (fun e => e.cells.length == n) then ok0 (.isl s' ((xs.drop l).take (h - l))) ps ob else none
    | none => none
  | .msl id i len => match cutV len false l h ps ob, look id with
    | some (_, l, h, ps, ob), some b => if b.sz = n then some ⟨.msl id (i + l) (h - l), [], [], [id], ps, ob⟩ else none
    | _, _ => none
  | .nils => match cutV 0 false l h ps ob with
    | some (_, _, _, ps, ob) => ok0 .nils ps ob
    | none => none
  | _ => none
def opCut (x : ByteArray) (s : Bool) (l h : Option (Bool × Int)) (ps : List Ev) (ob : Prop) : Option Out :=
  match cutV x.size s l h ps ob with
  | some (s, l, h, ps, ob) => ok0 (.str s (x.extract l h)) ps ob
  | none => none
def isBody (P : Program) (f : FuncId) : Bool := match P.funcs[f]? with
  | some fn => fn.body.isSome && fn.name != "runtime.NumGoroutine"
  | none => false
/-- The library's own: the pointer as it is. -/
def isNoEscape (P : Program) (f : FuncId) : Bool := match P.funcs[f]? with
  | some fn => fn.body.isNone && fn.name == "internal/abi.NoEscape" && fn.origin == ""
  | none => false
def iop (E : Env) (T : List V) (look : Look) (nid : Nat) (o : Oper) (ps : List Ev) (ob : Prop) : Option Out :=
  let P := E.P
  match o.op with
  | .move x | .assign x => match ev T x with
    | some v => ok0 v ps ob
    | none => none
  | .pick c a b => match ev T c, ev T a, ev T b with
    | some (.bool s c), some a, some b => match ask s c ps ob with
      | some (true, ps, ob) => ok0 a ps ob
      | some (false, ps, ob) => ok0 b ps ob
      | none => none
    | _, _, _ => none
  | .alloc t => match zeroV P t with
    | some z => if z.cells.all V.one then some ⟨.mptr nid 0 0, [], [some { es := [z], sz := z.cells.length, dirty := true, ty := some t }], [], ps, ob⟩ else none
    | none => none
  | .box t x => match ev T x with
    | some v => if v.cells.all V.one then
        if E.cx.imm.contains (o.dst.getD 0) then (if v.pure then ok0 (.iptr v 0) ps ob else none)
        else some ⟨.mptr nid 0 0, [], [some { es := [v], sz := v.cells.length, dirty := true, ty := some t }], [], ps, ob⟩
      else none
    | none => none
  | .build t parts => match partsV T parts.toList with
    | some vs => match opBuild P t vs with
      | some v => ok0 v ps ob
      | none => none
    | none => none
  | .buildSlice t len parts => match P.underlying t, partsV T parts.toList with
    | some (.slice elem), some vs => match zeroV P elem with
      | some z =>
        let sz := P.cellsOf elem
        if 0 < sz ∧ len * sz ≤ 65536 ∧ z.cells.length = sz ∧ z.cells.all V.one = true then match fillS sz (List.replicate len z) vs with
          | some es => if E.cx.mus.contains (o.dst.getD 0) then (if 0 < len then some ⟨.osl false nid, [], [some { es, sz, dirty := true, lst := true, lty := some elem }], [], ps, ob⟩ else some ⟨.msl nid 0 0, [], [some { es, sz, dirty := true, lty := some elem }], [], ps, ob⟩)
            else if pureL es then ok0 (.isl false es) ps ob else none
          | none => none
        else none
      | none => none
    | _, _ => none
  | .load t a => match ev T a with
    | some p => opLoad P look t p ps ob
    | none => none
  | .store t a x => match ev T a, ev T x with
    | some p, some v => opStore P look t p v ps ob
    | _, _ => none
  | .nilCheck x => match ev T x with
    | some (.iptr e off) => ok0 (.iptr e off) ps ob
    | some (.mptr id i off) => ok0 (.mptr id i off) ps ob
    | some (.fn (.func f) a b) => ok0 (.fn (.func f) a b) ps ob
    | _ => none
  | .binOp op t x y _ => match ev T x, ev T y with
    | some a, some b => opBin P op t a b ps ob
    | _, _ => none
  | .unOp op _ x => match (ev T x).bind toScalar with
    | some (s, a) => match (pureRun P (Op.unary op a)).bind (ofRes true) with
      | some v => ok0 (mark s v) ps ob
      | none => none
    | none => none
  | .convert src dst x => match ev T x with
    | some (.int s _ n) => match P.underlying src, P.underlying dst with
      | some _, some (.int k) => ok0 (.int s k (k.wrap n)) ps ob
      | _, _ => none
    | some (.str s b) => match P.underlying src, P.underlying dst with
      | some _, some .string => ok0 (.str s b) ps ob
      | _, _ => none
    | some (.isl s xs) => match P.underlying src, P.underlying dst with
      | some (.slice e), some .string => if byteT P e = true then match must s (xs.all isByte) ps ob with
          | some (ps, ob) => ok0 (.str (s || symE xs) (textOf xs)) ps ob
          | none => none
        else none
      | _, _ => none
    | some (.mptr id i off) => match P.underlying src, P.underlying dst, look id with
      | some (.pointer t), some .unsafePointer, some b => if i = 0 ∧ off < b.sz ∧ b.ty.isSome ∧ P.cellsOf t ≠ 0 then some ⟨.mptr id 0 off, [], [], [id], ps, ob⟩ else none
      | some .unsafePointer, some (.pointer u), some b => match b.ty with
        | some e => if i = 0 ∧ (P.info? u).isSome ∧ liesAt P P.depth e (b.sz / P.cellsOf e) off u 1 = true then some ⟨.mptr id 0 off, [], [], [id], ps, ob⟩ else none
        | none => none
      | _, _, _ => none
    | _ => none
  | .makeInterface t x => match ev T x, P.underlying t with
    | some _, some (.interface _) => none
    | some v, some _ => ok0 (.ifc t v) ps ob
    | _, _ => none
  | .makeFunc fn first captured => match evs T first.toList, evs T captured.toList with
    | some a, some b => ok0 (.fn fn a b) ps ob
    | _, _ => none
  | .makeSlice t l c => match P.underlying t, ev T l, ev T c with
    | some (.slice elem), some (.int false _ n), some (.int false _ m) => match zeroV P elem with
      | some z =>
        if n = m ∧ 0 < n ∧ 0 < P.cellsOf elem ∧ n.toNat * P.cellsOf elem ≤ 65536 ∧ (P.bytesOf elem : Int) * n ≤ 65536 ∧ z.cells.length = P.cellsOf elem ∧ z.cells.all V.one = true then
          some ⟨.msl nid 0 n.toNat, [], [some { es := List.replicate n.toNat z, sz := P.cellsOf elem, dirty := true, lty := some elem }], [], ps, ob⟩
        else none
      | none => none
    | _, _, _ => none
  | .slice t x l h none => match ev T x, optInt T l, optInt T h with
    | some x, some l, some h => match P.underlying t, x with
      | some (.slice elem), x => opSlice P look elem x l h ps ob
      | some .string, .str s b => opCut b s l h ps ob
      | _, _ => none
    | _, _, _ => none
  | .fieldAddr s a f => match ev T a, (fieldsOf P s).bind (·[f]?) with
    | some (.iptr e off), some g => if P.cellsOf g.type = 0 then none else ok0 (.iptr e (off + g.offset)) ps ob
    | some (.mptr id i off), some g => if P.cellsOf g.type = 0 then none else ok0 (.mptr id i (off + g.offset)) ps ob
    | _, _ => none
  | .field s x f => match ev T x, (fieldsOf P s).bind (·[f]?) with
    | some (.agg cs), some g => match partOf P g.type (.agg cs) g.offset with
      | some v => ok0 v ps ob
      | none => none
    | _, _ => none
  | .indexAddr t x i => match ev T x, ev T i with
    | some x, some i => opIndexAddr P look t x i ps ob
    | _, _ => none
  | .index t x i => match P.underlying t, ev T x, ev T i with
    | some .string, some (.str s b), some (.int s' _ i) => match must (s || s') (inRange i b.size) ps ob with
      | some (ps, ob) => ok0 (.int (s || s') .u8 (((b.data.toList[i.toNat]?).getD 0).toNat : Int)) ps ob
      | none => none
    | some (.array len elem), some (.agg cs), some (.int s' _ i) => match must s' (inRange i len) ps ob with
      | some (ps, ob) => match partOf P elem (.agg cs) (i.toNat * P.cellsOf elem) with
        | some v => ok0 v ps ob
        | none => none
      | none => none
    | _, _, _ => none
  | .extract x i => match ev T x with
    | some (.tup vs) => match vs[i]? with
      | some v => ok0 v ps ob
      | none => none
    | _ => none
  | .call c => match evs T c.args.toList with
    | some args => match c.callee with
      | .builtin b => opBuiltin E look nid (E.cx.gro.contains (o.dst.getD 0)) b c.argTypes args ps ob
      | .value f => match ev T f with
        | some (.fn (.func f) first captured) => if isBody P f then doCall E look nid ps ob f (first ++ args ++ captured) else match isNoEscape P f, first ++ args ++ captured with
          | true, [x] => ok0 x ps ob
          | _, _ => none
        | _ => none
      | .invoke _ _ => none
    | none => none
  | _ => none

def lookH (H : Heap) : Look := fun id => match H[id]? with | some b => b | none => none
def putH (H : Heap) : List (Nat × Option Blk) → Heap
  | [] => H
  | (id, b) :: rest => putH (H.set id b) rest
def putT (T : List V) (dst : Option Tmp) (v : V) : List V := match dst with
  | some d => T.set d v
  | none => T
/-- Does a guard of the region ask for what j yields? -/
def isSrc (j : Nat) : List Oper → Bool
  | [] => false
  | o :: rest => (match o.guard with
    | some (g, _) => g == j
    | none => false) || isSrc j rest
/-- A symbol that guards ask for is asked for at once. -/
def settle (ops : Array Oper) (j : Nat) (r : Out) : Option Out := match r.v with
  | .bool true b => match isSrc j ops.toList with
    | true => match r.ps with
      | .br c :: ps => some ⟨.bool false c, r.upd, r.new, r.fp, ps, r.ob ∧ b = c⟩
      | .at 0 :: ps => some ⟨.bool false true, r.upd, r.new, r.fp, ps, r.ob ∧ b = true⟩
      | .at 1 :: ps => some ⟨.bool false false, r.upd, r.new, r.fp, ps, r.ob ∧ b = false⟩
      | _ => none
    | false => some r
  | _ => some r
/-- What is put here is handed on by value from here on. -/
def frzO (look : Look) (o : Oper) (z : List Nat) (r : Out) : Option Out := match o.dst with
  | some d => match z.contains d with
    | true => match r.upd, r.new with
      | [], [] => match fz look (fun _ => false) 10000 r.v with
        | some (v', ids) => some ⟨v', ids.map fun id => (id, none), [], ids ++ r.fp, r.ps, r.ob⟩
        | none => none
      | _, _ => none
    | false => some r
  | none => some r
def iopF (E : Env) (T : List V) (look : Look) (nid : Nat) (o : Oper) (ps : List Ev) (ob : Prop) : Option Out := match iop E T look nid o ps ob with
  | some r => frzO look o E.cx.frz r
  | none => none
def iopS (E : Env) (ops : Array Oper) (j : Nat) (T : List V) (look : Look) (nid : Nat) (o : Oper) (ps : List Ev) (ob : Prop) : Option Out := match iopF E T look nid o ps ob with
  | some r => settle ops j r
  | none => none
def inH (H : Heap) (upd : List (Nat × Option Blk)) : Bool := upd.all fun u => decide (u.1 < H.length)
/-- Closures that, deferred, leave all as it was on a normal return (shown by hand), with the number of what they are handed. -/
def quietL : List (FuncId × Nat) :=
  (93, 4) ::
  []
def quietB (g : FuncId) (n : Nat) : Bool := quietL.any fun q => Nat.beq q.1 g && Nat.beq q.2 n
/-- Is a quiet closure deferred here? -/
def deferOf (E : Env) (T : List V) (o : Oper) : Bool := match o.op with
  | .defer c => match c.callee with
    | .value f => match evs T c.args.toList, ev T f with
      | some args, some (.fn (.func g) first captured) => isBody E.P g && quietB g (first.length + args.length + captured.length)
      | _, _ => false
    | _ => false
  | _ => false
/-- The operations one behind the other, as the text has them. -/
def runOps (E : Env) (ops : Array Oper) : Nat → List Oper → St → Option St
  | _, [], st => some st
  | j, o :: rest, st => match wantedV ops st.T o st.ps st.ob with
    | some (true, ps, ob) => match deferOf E st.T o with
      | true => runOps E ops (j + 1) rest ⟨putT st.T o.dst (.tup []), st.H, ps, ob⟩
      | false => match iopS E ops j st.T (lookH st.H) st.H.length o ps ob with
        | some r => if inH st.H r.upd then runOps E ops (j + 1) rest ⟨putT st.T o.dst r.v, putH st.H r.upd ++ r.new, r.ps, r.ob⟩ else none
        | none => none
    | some (false, ps, ob) => runOps E ops (j + 1) rest ⟨putT st.T o.dst (.tup []), st.H, ps, ob⟩
    | none => none
/-- A load of a cell of the call's own: whoever writes the block may keep the cell. -/
structure Soft where
  id : Nat
  i : Nat
  off : Nat
  t : TypeId
  v : V
/-- What an operation looked at, and wrote; a load; the memory behind it. -/
structure Lg where
  f : List Nat
  w : List Nat
  sf : Option Soft
  H : Heap
abbrev Log := List Lg
def inFrz (z : List Nat) (d : Option Nat) : Bool := match d with
  | some d => z.contains d
  | none => false
def softOf (E : Env) (ops : Array Oper) (j : Nat) (T : List V) (look : Look) (o : Oper) (v : V) : Option Soft := match o.op with
  | .load t a => match ev T a with
    | some (.mptr id i off) => match look id with
      | some b => match b.sym with
        | false => match isSrc j ops.toList with
          | false => match inFrz E.cx.frz o.dst with
            | false => some ⟨id, i, off, t, v⟩
            | true => none
          | true => none
        | true => none
      | none => none
    | _ => none
  | _ => none
/-- The cell is as it was. -/
def softP (P : Program) (s : Soft) (H : Heap) : Prop := match lookH H s.id with
  | some b => match b.sym with
    | false => match b.es[s.i]? with
      | some e => partOf P s.t e s.off = some s.v
      | none => False
    | true => False
  | none => False
def putD (H : Heap) (r : Out) (nid : Nat) : Heap := match r.new with
  | [] => putH H r.upd
  | nb :: _ => (putH H r.upd).set nid nb
def wrOf (r : Out) (nid : Nat) : List Nat := match r.new with
  | [] => r.upd.map (·.1)
  | _ => nid :: r.upd.map (·.1)
/-- The same where the order is drawn: new blocks have places of their own; what each looked at, and wrote, is told. -/
def runDrawn (E : Env) (ops : Array Oper) (base : Nat) : Nat → List Oper → St → Option (St × Log)
  | _, [], st => some (st, [])
  | j, o :: rest, st => match wantedV ops st.T o st.ps st.ob with
    | some (true, ps, ob) => match iopS E ops j st.T (lookH st.H) (base + j) o ps ob with
      | some r => if inH st.H r.upd ∧ r.new.length ≤ 1 then match runDrawn E ops base (j + 1) rest ⟨putT st.T o.dst r.v, putD st.H r (base + j), r.ps, r.ob⟩ with
          | some (st', log) => some (st', ⟨wrOf r (base + j) ++ r.fp, wrOf r (base + j), softOf E ops j st.T (lookH st.H) o r.v, putD st.H r (base + j)⟩ :: log)
          | none => none
        else none
      | none => none
    | some (false, ps, ob) => match runDrawn E ops base (j + 1) rest ⟨putT st.T o.dst (.tup []), st.H, ps, ob⟩ with
      | some (st', log) => some (st', ⟨[], [], none, st.H⟩ :: log)
      | none => none
    | none => none
def disj (a b : List Nat) : Bool := match a with
  | [] => true
  | x :: a => !b.contains x && disj a b
/-- One against those ahead of it: what is asked of loads. -/
def clash1 (P : Program) (mask : Nat) (l : Lg) : Nat → Log → Option (List Prop)
  | _, [] => some []
  | i, li :: rest => match clash1 P mask l (i + 1) rest with
    | some ps => match li.f with
      | [] => some ps
      | _ => match mask.testBit i || (disj l.w li.f && disj li.w l.f) with
        | true => some ps
        | false => match li.sf, li.w with
          | some s, [] => some (softP P s l.H :: ps)
          | _, _ => none
    | none => none
def clash (P : Program) (b : Array Nat) (all : Log) : Nat → Log → Option (List Prop)
  | _, [] => some []
  | j, l :: rest => match clash P b all (j + 1) rest with
    | some ps => match l.f with
      | [] => some ps
      | _ => match clash1 P (b.getD j 0) l 0 (all.take j) with
        | some qs => some (qs ++ ps)
        | none => none
    | none => none
def allP : List Prop → Prop
  | [] => True
  | p :: ps => p ∧ allP ps
def edgesOk : Nat → List Oper → Bool
  | _, [] => true
  | j, o :: rest => o.after.toList.all (fun e => !Region.binds .any e || decide (e.on < j)) && edgesOk (j + 1) rest
def oneWriter (t : Tmp) (g : Nat) : Nat → List Oper → Bool
  | _, [] => true
  | j, o :: rest => (match o.dst with
    | some d => d != t || j == g
    | none => true) && oneWriter t g (j + 1) rest
def guardsOk (ops : Array Oper) (all : List Oper) : List Oper → Bool
  | [] => true
  | o :: rest => (match o.guard with
    | none => true
    | some (g, _) => o.after.toList.any (fun e => e.on == g && Region.binds .any e) && (match (ops[g]?).bind (·.dst) with
      | some t => oneWriter t g 0 all
      | none => false)) && guardsOk ops all rest
def drawP (P : Program) (ops : Array Oper) (log : Log) : Option (List Prop) :=
  let b := Region.before ops
  match edgesOk 0 ops.toList && Region.temporariesOk ops b && guardsOk ops ops.toList ops.toList with
  | true => clash P b log 0 log
  | false => none
def tabV (n : Nat) (kv : List (Nat × V)) : List V := (List.range n).map fun t => (kv.lookup t).getD .any
/-- These slots alone. -/
def onlyV (T : List V) (slots : List Nat) : List (Nat × V) := slots.map fun t => (t, (T[t]?).getD .any)
/-- A piece of code has a memory of its own: these slots, these blocks. -/
def inT (n : Nat) (m slots : List Nat) (T : List V) : List V := renL (indexOf m) (tabV n (onlyV T slots))
def inB (m : List Nat) (H : Heap) : Heap := m.map fun id => (lookH H id).map (renB (indexOf m) false)
def frameOk (m : List Nat) (H H' : Heap) : Bool := nodupB m && (m.all fun id => blkOk (indexOf m) (lookH H id)) && Nat.ble m.length H'.length && inH H (backUpd [] (backOf m H.length) m H')
def outT (m : List Nat) (H : Heap) (T' : List V) : List V := renL (backOf m H.length) T'
def outB (m : List Nat) (H H' : Heap) : Heap := putH H (backUpd [] (backOf m H.length) m H') ++ (H'.drop m.length).map (·.map (renB (backOf m H.length) true))
def cutAt (ok : List V → Heap → Ex → List V → Heap → Prop) (st : St) (slots m : List Nat) (e : Ex) (kv : List (Nat × V)) (H' : Heap) (ps : List Ev) : Option (Ex × St) := match frameOk m st.H H' with
  | true => some (e, ⟨outT m st.H (tabV st.T.length kv), outB m st.H H', ps, st.ob ∧ ok (inT st.T.length m slots st.T) (inB m st.H) e (tabV st.T.length kv) H'⟩)
  | false => none
/-- The number of the first region. -/
def headR : Code → Nat
  | .region id _ _ => id
  | .seq a _ => headR a
  | .block _ a => headR a
  | .loop a => headR a
  | .scope a => headR a
  | _ => 0
def cutEv (c : Code) : List Ev → Option (List Nat × List Nat × Ex × List (Nat × V) × Heap × List Ev)
  | [] => none
  | e :: ps => match e with
    | .cut k slots ids e kv H' => match Nat.beq k (headR c) with
      | true => some (slots, ids, e, kv, H', ps)
      | false => none
    | _ => none
def loopEx : Option Nat → Ex
  | some id => .exit id
  | none => .ret
mutual
def exec (E : Env) : Nat → Code → St → Option (Ex × St)
  | 0, _, _ => none
  | n + 1, c, st => match c with
    | .skip | .label _ => some (.normal, st)
    | .ret => some (.ret, st)
    | .exit id => some (.exit id, st)
    | .region _ ops d => match d with
      | false => match runOps E ops 0 ops.toList st with
        | some st => some (.normal, st)
        | none => none
      | true => match runDrawn E ops st.H.length 0 ops.toList { st with H := st.H ++ List.replicate ops.size none } with
        | some (st, log) => match drawP E.P ops log with
          | some [] => some (.normal, st)
          | some (p :: qs) => match st.ps with
            | .soft :: ps => some (.normal, { st with ps, ob := st.ob ∧ allP (p :: qs) })
            | _ => none
          | none => none
        | none => none
    | .seq a b => match exec E n a st with
      | some (.normal, st) => match cutEv b st.ps with
        | some (slots, ids, e, kv, H', ps) => cutAt (E.code b) st slots ids e kv H' ps
        | none => exec E n b st
      | r => r
    | .cond c a b => match ev st.T c with
      | some (.bool s t) => match ask s t st.ps st.ob with
        | some (true, ps, ob) => exec E n a { st with ps, ob }
        | some (false, ps, ob) => exec E n b { st with ps, ob }
        | none => none
      | _ => none
    | .block id c => match exec E n c st with
      | some (.exit j, st) => if j = id then some (.normal, st) else some (.exit j, st)
      | r => r
    | .loop c => match st.ps with
      | .loop slots ids e kv H' :: ps => cutAt (E.loop c) st slots ids (loopEx e) kv H' ps
      | _ => iter E n c st
    | _ => none
def iter (E : Env) : Nat → Code → St → Option (Ex × St)
  | 0, _, _ => none
  | n + 1, c, st => match exec E n c st with
    | some (.normal, st) => match st.ps with
      | .loop slots ids e kv H' :: ps => cutAt (E.loop c) st slots ids (loopEx e) kv H' ps
      | _ => iter E n c st
    | r => r
end
def resV (P : Program) (T : List V) (look : Look) : List ResultVar → Option (List V)
  | [] => some []
  | .tmp t :: rs => match T[t]?, resV P T look rs with
    | some v, some vs => some (v :: vs)
    | _, _ => none
  | .cell a t :: rs => match T[a]? with
    | some p => match opLoad P look t p [] True, resV P T look rs with
      | some r, some vs => some (r.v :: vs)
      | _, _ => none
    | none => none
def oneV : List V → V
  | [v] => v
  | vs => .tup vs
def below (n : Nat) (id : Nat) : Option Nat := if id < n then some id else none
def allOk (n : Nat) : Heap → Bool
  | [] => true
  | b :: H => (match b with
    | some b => blkOk (below n) (some b)
    | none => true) && allOk n H
/-- Blocks that nobody knows of are left out. -/
def cut (n0 : Nat) (v : V) (H : Heap) : Heap := if okV (below n0) v && allOk n0 (H.take n0) then H.take n0 else H
/-- The new numbers of blocks: those of q in a row from n on; those below n, that are not of q, as they were. -/
def labF (n : Nat) (q : List Nat) (id : Nat) : Option Nat := match indexOf q id with
  | some j => some (n + j)
  | none => if id < n then some id else none
def labH (n : Nat) (q : List Nat) (H : Heap) : Heap :=
  ((List.range n).map fun i => match q.contains i with | true => none | false => (lookH H i).map (renB (labF n q) true)) ++ q.map fun id => (lookH H id).map (renB (labF n q) true)
def rootsOf : Heap → List V
  | [] => []
  | some b :: H => (match b.sym with | true => [] | false => b.es) ++ rootsOf H
  | none :: H => rootsOf H
/-- What is still known of: the answer, and the blocks, those that nobody knows of left out. -/
def gc (n0 : Nat) (v : V) (H : Heap) : V × Heap :=
  match okV (below n0) v && allOk n0 (H.take n0) with
  | true => (v, H.take n0)
  | false => match reach (lookH H) 10000 (v :: rootsOf (H.take n0)) [] with
    | some m => match nodupB (m.filter fun id => Nat.ble n0 id) with
      | true => (ren (labF n0 (m.filter fun id => Nat.ble n0 id)) v, labH n0 (m.filter fun id => Nat.ble n0 id) H)
      | false => (v, H)
    | none => (v, H)
/-- What a call comes to: its answer, and the blocks that it was given. -/
def finish (P : Program) (fn : Func) (keepRes : Bool) (n0 : Nat) (T : List V) (H : Heap) : Option (V × Heap) :=
  match resV P T (lookH H) fn.results.toList with
  | some vs => match keepRes with
    | true => some (gc n0 (oneV vs) H)
    | false => match fz (lookH H) (fun id => decide (n0 ≤ id)) 10000 (oneV vs) with
      | some (v, ids) => if inH H (ids.map (·, none)) then some (gc n0 v (putH H (ids.map (·, none)))) else none
      | none => none
  | none => none
def enterV (fn : Func) (args : List V) : List V := args ++ List.replicate (fn.ntmps - args.length) (.tup [])
def icall (P : Program) (A : FuncId → Cx) (sim : FuncId → List V → Heap → V → Heap → Prop) (orc : FuncId → List V → Heap → Option (V × Heap)) : Nat → FuncId → List V → Heap → Option (V × Heap)
  | 0, _, _, _ => none
  | n + 1, f, args, H => match orc f args H with
    | some r => some r
    | none => match P.funcs[f]? with
      | some fn => match fn.body with
        | some c => match exec { P, cx := A f, call := icall P A sim orc n, sim } n c ⟨enterV fn args, H, [], True⟩ with
          | some (.normal, st) | some (.ret, st) => finish P fn (A f).keepRes H.length st.T st.H
          | _ => none
        | none => none
      | none => none
end Go.Im
