/- An abstract machine over the model: values with named blocks of memory, regions walked in the order of the text; it is proved sound for every program and every order that the edges allow. -/
import Derived.Below
import Derived.Deep.LoopGhost
import Derived.KernelRfl
import Derived.Laws.CopyRow
import Derived.Laws.StructEq
import Derived.Maps.AppendAt
import Derived.OrdersHeld
import Derived.OrdersIn
import Derived.RangeFuncLeaves
import Derived.RangeFuncNested
import Derived.Sort.LoopGhostIn
import Derived.TacticsIn
import Derived.WalkKit
set_option linter.unusedVariables false

namespace Go.AbsK
open Go.RowKit

/-- A block's name: the slot that it was laid for, and the round. -/
abbrev Nm := Nat × Nat
/-- The value of one cell. -/
inductive Cell where
  | b (x : Bool)
  | i (k : IntKind) (n : Int)
  | ptr (n : Nm) (row w col : Nat)
  | slc (n : Nm) (row w len : Nat) (cap : Option Nat)
  | nils
  | nilp
  | str (s : ByteArray)
/-- The value of a slot. -/
inductive AV where
  | und
  | c (x : Cell)
  | agg (l : List Cell)
  | fn (f : FuncId) (caps : List Cell)
  | t2 (a b : AV)
  | ext (v : Value)
structure Blk where
  rows : List (List Cell)
  w : Nat
  ty : TypeId
  own : Bool
  cap : Option Nat
structure St where
  slots : Nat → AV
  heap : Nm → Option Blk
  gen : Nat
  k : Nat
/-- Where a block stands, and the capacity there; an address with a spot marks a slice that is nil. -/
abbrev Env := Nm → Addr × Nat
def Cell.conc (ν : Env) : Cell → Value
  | .b x => .bool x
  | .i k n => .int k n
  | .ptr n r w c => .pointer (some ((ν n).1.add (r * w + c)))
  | .slc n r w len cap => .slice (if (ν n).1.spot.isSome then none else some ((ν n).1.add (r * w))) len (cap.getD (ν n).2)
  | .nils => .slice none 0 0
  | .nilp => .pointer none
  | .str s => .string s
def concs (ν : Env) (l : List Cell) : Array Value := (l.map (·.conc ν)).toArray
def AV.conc (ν : Env) : AV → Value
  | .und => undef
  | .c x => x.conc ν
  | .agg l => .agg (concs ν l)
  | .fn f caps => .func (.func f) #[] (concs ν caps)
  | .t2 a b => .tuple #[a.conc ν, b.conc ν]
  | .ext v => v
def Cell.ok (D : Nm → Prop) : Cell → Prop
  | .ptr n _ _ _ => D n
  | .slc n _ _ _ _ => D n
  | _ => True
def AV.ok (D : Nm → Prop) : AV → Prop
  | .und => False
  | .c x => x.ok D
  | .agg l => ∀ x ∈ l, x.ok D
  | .fn _ caps => ∀ x ∈ caps, x.ok D
  | .t2 a b => a.ok D ∧ b.ok D
  | .ext _ => True
/-- The slot's value is what the abstract one says; nothing is said of 'und'. -/
def RV (ν : Env) (D : Nm → Prop) (v : Value) (x : AV) : Prop := x = .und ∨ (x.ok D ∧ v = x.conc ν)
theorem Cell.ok_mono {D D' : Nm → Prop} (h : ∀ n, D n → D' n) {x : Cell} (hx : x.ok D) : x.ok D' := by
  cases x <;> first | exact h _ hx | trivial
theorem AV.ok_mono {D D' : Nm → Prop} (h : ∀ n, D n → D' n) {x : AV} (hx : x.ok D) : x.ok D' := by
  induction x with
  | und => exact hx
  | c x => exact Cell.ok_mono h hx
  | agg l => exact fun y hy => Cell.ok_mono h (hx y hy)
  | fn f l => exact fun y hy => Cell.ok_mono h (hx y hy)
  | t2 a b iha ihb => exact ⟨iha hx.1, ihb hx.2⟩
  | ext v => exact hx
theorem Cell.conc_eq {D : Nm → Prop} {ν ν' : Env} (h : ∀ n, D n → ν' n = ν n) {x : Cell} (hx : x.ok D) : x.conc ν' = x.conc ν := by
  cases x with
  | ptr n r w c => simp only [Cell.conc, h n hx]
  | slc n r w len cap => simp only [Cell.conc, h n hx]
  | _ => rfl
theorem concs_eq {D : Nm → Prop} {ν ν' : Env} (h : ∀ n, D n → ν' n = ν n) {l : List Cell} (hl : ∀ x ∈ l, x.ok D) : concs ν' l = concs ν l := by
  unfold concs
  rw [List.map_congr_left (fun x hx => Cell.conc_eq h (hl x hx))]
theorem AV.conc_eq {D : Nm → Prop} {ν ν' : Env} (h : ∀ n, D n → ν' n = ν n) {x : AV} (hx : x.ok D) : x.conc ν' = x.conc ν := by
  induction x with
  | und => rfl
  | c x => exact Cell.conc_eq h hx
  | agg l => simp only [AV.conc, concs_eq h hx]
  | fn f l => simp only [AV.conc, concs_eq h hx]
  | t2 a b iha ihb => simp only [AV.conc, iha hx.1, ihb hx.2]
  | ext v => rfl
theorem RV.mono {ν ν' : Env} {D D' : Nm → Prop} {v : Value} {x : AV} (h : RV ν D v x) (hD : ∀ n, D n → D' n) (hν : ∀ n, D n → ν' n = ν n) : RV ν' D' v x := by
  rcases h with h | ⟨h, rfl⟩
  · exact .inl h
  · exact .inr ⟨AV.ok_mono hD h, (AV.conc_eq hν h).symm⟩
inductive TD where
  | int (k : IntKind)
  | bool
  | string
  | scalar
  | struct (fs : List (Nat × Nat × Bool))
  | array (len esz : Nat) (ea : Bool)
  | slice (elem : TypeId)
structure TI where
  d : TD
  sz : Nat
  by_ : Nat
  zero : List Cell
def TD.isAgg : TD → Bool
  | .struct _ => true
  | .array .. => true
  | _ => false
abbrev Tab := TypeId → Option TI
def isAggD : TypeDesc → Bool
  | .struct _ => true
  | .array .. => true
  | _ => false
/-- What a row of the table says of the program's type. -/
structure TIok (P : Program) (t : TypeId) (ti : TI) : Prop where
  info : ∃ inf, P.info? t = some inf ∧ inf.size = ti.sz ∧ inf.bytes = ti.by_ ∧ (∃ z, inf.zero = some z ∧ z.cells = concs (fun _ => (⟨0, 0, none⟩, 0)) ti.zero ∧ (ti.d.isAgg = true → z = .agg z.cells))
  len : ti.zero.length = ti.sz
  plain : ∀ c ∈ ti.zero, c.ok (fun _ => False)
  und : match ti.d with
    | .int k => P.underlying t = some (.int k)
    | .bool => P.underlying t = some .bool
    | .string => P.underlying t = some .string
    | .scalar => ∃ d, P.underlying t = some d ∧ isAggD d = false
    | .struct fs => ∃ fields, P.underlying t = some (.struct fields) ∧ fields.size = fs.length ∧ ∀ (j : Nat) (f : Field), fields[j]? = some f →
        ∃ off sz ag, fs[j]? = some (off, sz, ag) ∧ f.offset = off ∧ 0 < sz ∧ (∃ inf, P.info? f.type = some inf ∧ inf.size = sz) ∧ (∃ d, P.underlying f.type = some d ∧ isAggD d = ag)
    | .array len esz ag => ∃ e, P.underlying t = some (.array len e) ∧ (∃ inf, P.info? e = some inf ∧ inf.size = esz) ∧ (∃ d, P.underlying e = some d ∧ isAggD d = ag)
    | .slice e => P.underlying t = some (.slice e)
def TabOK (P : Program) (tab : Tab) : Prop := ∀ t ti, tab t = some ti → TIok P t ti
def constOf : Value → AV
  | .bool b => .c (.b b)
  | .int k n => .c (.i k n)
  | .slice none 0 0 => .c .nils
  | .pointer none => .c .nilp
  | .string s => .c (.str s)
  | _ => .und
/-- The byte of a string. -/
def strAt (s : ByteArray) (v : Int) : Option Int := (if 0 ≤ v then s[v.toNat]? else none).map fun b => (b.toNat : Int)
def St.ev (st : St) : Operand → AV
  | .tmp t => st.slots t
  | .const v => constOf v
  | .global _ => .und
  | .func f => .fn f []
def AV.cells : AV → Option (List Cell)
  | .c x => some [x]
  | .agg l => some l
  | _ => none
/-- What an operation has done: the value of its slot, new or written blocks, the names of which it asked. -/
structure Eff where
  val : AV
  blks : List (Nm × Blk)
  rd : List Nm
def binInt (op : BinOp) (k : IntKind) (x y : Int) : Option Cell :=
  match op with
  | .add => some (.i k (k.wrap (x + y)))
  | .sub => some (.i k (k.wrap (x - y)))
  | .mul => some (.i k (k.wrap (x * y)))
  | .quo => if y = 0 then none else some (.i k (k.wrap (x.tdiv y)))
  | .rem => if y = 0 then none else some (.i k (x.tmod y))
  | .and => some (.i k (bits .and k x y))
  | .or => some (.i k (bits .or k x y))
  | .eql => some (.b (x == y))
  | .neq => some (.b (x != y))
  | .lss => some (.b (decide (x < y)))
  | .leq => some (.b (decide (x ≤ y)))
  | .gtr => some (.b (decide (x > y)))
  | .geq => some (.b (decide (x ≥ y)))
  | _ => none
/-- What the cells of a struct that can be compared are: an integer of a kind, or a bool. -/
abbrev Shp := List (Option IntKind)
def eqCell : Option IntKind → Cell → Cell → Option Bool
  | none, .b x, .b y => some (x == y)
  | some _, .i k x, .i k' y => if k = k' then some (x == y) else none
  | _, _, _ => none
/-- The comparison of two structs, cell by cell. -/
def eqCells : Shp → List Cell → List Cell → Option Bool
  | [], [], [] => some true
  | s :: sh, x :: xs, y :: ys => match eqCell s x y, eqCells sh xs ys with
    | some a, some b => some (a && b)
    | _, _ => none
  | _, _, _ => none
def shiftInt (op : BinOp) (k : IntKind) (x y : Int) : Option Cell :=
  match op with
  | .shl => if y < 0 then none else some (.i k (k.wrap (x * 2 ^ (min y.toNat k.bits))))
  | .shr => if y < 0 then none else some (.i k (x.fdiv (2 ^ (min y.toNat k.bits))))
  | _ => none
def isShift : BinOp → Bool
  | .shl => true
  | .shr => true
  | _ => false
/-- EQ: the struct types whose comparison goes cell by cell, and their cells. -/
def binA (EQ : TypeId → Option Shp) (tab : Tab) (op : BinOp) (t : TypeId) (x y : AV) : Option AV :=
  match x, y with
  | .c (.i k a), .c (.i k' b) =>
    if isShift op then (shiftInt op k a b).map .c
    else if k = k' then (binInt op k a b).map .c else none
  | .c (.b a), .c (.b b) => match tab t with
    | some ti => match ti.d, op with
      | .bool, .eql => some (.c (.b (a == b)))
      | .bool, .neq => some (.c (.b (a != b)))
      | _, _ => none
    | none => none
  | .agg a, .agg b => match EQ t with
    | some sh => match op with
      | .eql => (eqCells sh a b).map fun r => .c (.b r)
      | .neq => (eqCells sh a b).map fun r => .c (.b (!r))
      | _ => none
    | none => none
  | _, _ => none
/-- A part laid over the cells of a zero value. -/
def over (cells : List Cell) (off : Nat) (p : List Cell) : List Cell := cells.take off ++ p ++ cells.drop (off + p.length)
def fillA (place : Nat → Option (Nat × Nat)) : List Cell → List (Nat × List Cell) → Option (List Cell)
  | cells, [] => some cells
  | cells, (i, p) :: rest => match place i with
    | none => none
    | some (off, size) => if p.length = size then (if off + p.length ≤ cells.length then fillA place (over cells off p) rest else none) else none
def partsOf (st : St) : List (Nat × Operand) → Option (List (Nat × List Cell))
  | [] => some []
  | (i, x) :: rest => match (st.ev x).cells, partsOf st rest with
    | some p, some ps => some ((i, p) :: ps)
    | _, _ => none
def fillRows : List (List Cell) → List (Nat × List Cell) → Option (List (List Cell))
  | rows, [] => some rows
  | rows, (i, p) :: rest => match rows[i]? with
    | some r => if p.length = r.length then fillRows (rows.set i p) rest else none
    | none => none
/-- The part of a row: a struct's cells, or the one cell. -/
def cut (ag : Bool) (r : List Cell) (col sz : Nat) : Option AV :=
  if ag then (if col + sz ≤ r.length then some (.agg ((r.drop col).take sz)) else none)
  else match r[col]? with
    | some x => some (.c x)
    | none => none
def Cell.names : Cell → List Nm
  | .ptr n _ _ _ => [n]
  | .slc n _ _ _ _ => [n]
  | _ => []
def AV.names : AV → List Nm
  | .und => []
  | .c x => x.names
  | .agg l => l.flatMap Cell.names
  | .fn _ caps => caps.flatMap Cell.names
  | .t2 a b => a.names ++ b.names
  | .ext _ => []
def namesOf : List AV → List Nm
  | [] => []
  | x :: xs => x.names ++ namesOf xs
def St.blksOf (st : St) : List Nm → Option (List Blk)
  | [] => some []
  | n :: ns => match st.heap n, st.blksOf ns with
    | some b, some bs => some (b :: bs)
    | _, _ => none
/-- What is known of the functions that are called: the result and the new blocks, out of the arguments and the blocks that they name. -/
abbrev Orc := FuncId → List AV → List Blk → (Nat → Nm) → AV → List (Nm × Blk) → Prop
def evArgs (st : St) : List Operand → Option (List AV)
  | [] => some []
  | x :: xs => match st.ev x, evArgs st xs with
    | .und, _ => none
    | v, some vs => some (v :: vs)
    | _, none => none
def maxA : Int → List AV → Option Int
  | m, [] => some m
  | m, x :: r => match x with
    | .c (.i .i64 n) => maxA (max m n) r
    | _ => none
def minA : Int → List AV → Option Int
  | m, [] => some m
  | m, x :: r => match x with
    | .c (.i .i64 n) => minA (min m n) r
    | _ => none
def builtinA (b : Builtin) (args : List AV) : Option AV :=
  match b, args with
  | .len, [.c (.slc _ _ _ len _)] => some (.c (.i .i64 len))
  | .len, [.c .nils] => some (.c (.i .i64 0))
  | .max, .c (.i .i64 n) :: r => (maxA n r).map fun m => .c (.i .i64 m)
  | .min, .c (.i .i64 n) :: r => (minA n r).map fun m => .c (.i .i64 m)
  | _, _ => none
def mkNames (d g : Nat) (j : Nat) : Nm := (1000 * (j + 1) + d, g)
def newA (st : St) (d : Option Tmp) (mk : Nm → AV × Blk) : Option Eff :=
  match d with
  | none => none
  | some d => if (st.heap (d, st.gen)).isNone then some ⟨(mk (d, st.gen)).1, [((d, st.gen), (mk (d, st.gen)).2)], [(d, st.gen)]⟩ else none
def callR (C : Orc) (f : FuncId) (d : Option Tmp) (st : St) (args : List AV) (e : Eff) : Prop :=
  ∃ d' bs r nb, d = some d' ∧ st.blksOf (namesOf args) = some bs ∧ C f args bs (mkNames d' st.gen) r nb ∧ nb.all (fun p => (st.heap p.1).isNone) = true ∧ e = ⟨r, nb, namesOf args ++ nb.map (·.1)⟩
def dead (blk : Blk) : Blk := { blk with rows := [], own := false, cap := none }
def appendA (tab : Tab) (t : TypeId) (st : St) (d : Option Tmp) (s x : AV) : Option Eff :=
  match tab t with
  | none => none
  | some ti => match ti.d with
    | .slice e => match tab e with
      | none => none
      | some te => match x with
        | .c .nils => match s with
          | .c .nils => some ⟨.c .nils, [], []⟩
          | .c (.slc ns row ws ls (some cs)) => if ls ≤ cs then some ⟨.c (.slc ns row ws ls (some cs)), [], []⟩ else none
          | _ => none
        | .c (.slc nx 0 wx lx _) => match st.heap nx with
          | none => none
          | some bx =>
            if wx = te.sz ∧ bx.w = te.sz ∧ lx ≤ bx.rows.length ∧ 0 < te.sz ∧ 0 < te.by_ then
              match s with
              | .c .nils => if lx * te.by_ ≤ 140737488355328 then
                  (newA st d fun n => (.c (.slc n 0 te.sz lx none), ⟨bx.rows.take lx, te.sz, e, true, none⟩)).map fun f => { f with rd := nx :: f.rd } else none
              | .c (.slc ns 0 ws ls cs) => match st.heap ns with
                | none => none
                | some bs =>
                  if ws = te.sz ∧ bs.w = te.sz ∧ bs.own = true ∧ bs.ty = e ∧ ls = bs.rows.length ∧ cs = bs.cap ∧ ns ≠ nx ∧ (ls + lx) * te.by_ ≤ 140737488355328 then
                    (newA st d fun n => (.c (.slc n 0 te.sz (ls + lx) none), ⟨bs.rows ++ bx.rows.take lx, te.sz, e, true, none⟩)).map fun f => { f with blks := f.blks ++ [(ns, dead bs)], rd := nx :: ns :: f.rd }
                  else none
              | _ => none
            else none
        | _ => none
    | _ => none
def evOp (tab : Tab) (EQ : TypeId → Option Shp) (st : St) (o : Oper) : Option Eff :=
  match o.op with
  | .move x => some ⟨st.ev x, [], []⟩
  | .assign x => some ⟨st.ev x, [], []⟩
  | .pick c a b => match st.ev c with
    | .c (.b t) => some ⟨if t then st.ev a else st.ev b, [], []⟩
    | _ => none
  | .alloc t => match tab t with
    | some ti => newA st o.dst fun n => (.c (.ptr n 0 ti.sz 0), ⟨[ti.zero], ti.sz, t, true, some 1⟩)
    | none => none
  | .box t x => match (st.ev x).cells with
    | some cs => newA st o.dst fun n => (.c (.ptr n 0 cs.length 0), ⟨[cs], cs.length, t, true, some 1⟩)
    | none => none
  | .build t parts => match tab t, partsOf st parts.toList with
    | some ti, some ps => match ti.d with
      | .struct fs => (fillA (fun i => (fs[i]?).map fun f => (f.1, f.2.1)) ti.zero ps).map fun cs => ⟨.agg cs, [], []⟩
      | .array _ esz _ => (fillA (fun i => some (i * esz, esz)) ti.zero ps).map fun cs => ⟨.agg cs, [], []⟩
      | _ => none
    | _, _ => none
  | .buildSlice t len parts => match tab t, partsOf st parts.toList with
    | some ti, some ps => match ti.d with
      | .slice e => match tab e with
        | some te => if 0 < te.sz ∧ len * te.sz ≤ 16777216 then match fillRows (List.replicate len te.zero) ps with
          | some rows => newA st o.dst fun n => (.c (.slc n 0 te.sz len (some len)), ⟨rows, te.sz, e, true, some len⟩)
          | none => none else none
        | none => none
      | _ => none
    | _, _ => none
  | .load t a => match tab t, st.ev a with
    | some ti, .c (.ptr n row w col) => match st.heap n with
      | some blk => if blk.w = w then match blk.rows[row]? with
        | some r => (cut ti.d.isAgg r col ti.sz).map fun v => ⟨v, [], [n]⟩
        | none => none else none
      | none => none
    | _, _ => none
  | .store t a x => match o.dst, tab t, st.ev a, (st.ev x).cells with
    | none, some ti, .c (.ptr n row w col), some cs => match st.heap n with
      | some blk => if blk.w = w ∧ blk.own = true ∧ cs.length = ti.sz then match blk.rows[row]? with
        | some r => if col + cs.length ≤ r.length then some ⟨.und, [(n, { blk with rows := blk.rows.set row (over r col cs) })], [n]⟩ else none
        | none => none else none
      | none => none
    | _, _, _, _ => none
  | .fieldAddr s x f => match tab s, st.ev x with
    | some ti, .c (.ptr n row w col) => match ti.d with
      | .struct fs => match fs[f]? with
        | some (off, _, _) => some ⟨.c (.ptr n row w (col + off)), [], []⟩
        | none => none
      | _ => none
    | _, _ => none
  | .field t x f => match tab t, st.ev x with
    | some ti, .agg l => match ti.d with
      | .struct fs => match fs[f]? with
        | some (off, sz, ag) => (cut ag l off sz).map fun v => ⟨v, [], []⟩
        | none => none
      | _ => none
    | _, _ => none
  | .indexAddr t x ix => match tab t, st.ev x, st.ev ix with
    | some ti, .c (.ptr n row w col), .c (.i _ v) => match ti.d with
      | .array len esz _ => if 0 ≤ v ∧ v < len then some ⟨.c (.ptr n row w (col + v.toNat * esz)), [], []⟩ else none
      | _ => none
    | some ti, .c (.slc n row w len _), .c (.i _ v) => match ti.d with
      | .slice e => match tab e with
        | some te => match st.heap n with
          | some blk => if te.sz = w ∧ (0 ≤ v ∧ v < len) ∧ row + v.toNat < blk.rows.length then some ⟨.c (.ptr n (row + v.toNat) w 0), [], [n]⟩ else none
          | none => none
        | none => none
      | _ => none
    | _, _, _ => none
  | .index t x ix => match tab t, st.ev x, st.ev ix with
    | some ti, .agg l, .c (.i _ v) => match ti.d with
      | .array len esz ea => if 0 ≤ v ∧ v < len then (cut ea l (v.toNat * esz) esz).map fun v => ⟨v, [], []⟩ else none
      | _ => none
    | some ti, .c (.str s), .c (.i _ v) => match ti.d with
      | .string => (strAt s v).map fun n => ⟨.c (.i .u8 n), [], []⟩
      | _ => none
    | _, _, _ => none
  | .binOp op t x y _ => (binA EQ tab op t (st.ev x) (st.ev y)).map fun v => ⟨v, [], []⟩
  | .unOp op _ x => match op, st.ev x with
    | .neg, .c (.i k n) => some ⟨.c (.i k (k.wrap (0 - n))), [], []⟩
    | .xor, .c (.i k n) => some ⟨.c (.i k (bits .xor k (if k.signed then -1 else k.max) n)), [], []⟩
    | .not, .c (.b x) => some ⟨.c (.b (!x)), [], []⟩
    | _, _ => none
  | .convert s d x => match tab s, tab d, st.ev x with
    | some _, some td, .c (.i _ n) => match td.d with
      | .int k => some ⟨.c (.i k (k.wrap n)), [], []⟩
      | _ => none
    | _, _, _ => none
  | .extract x j => match st.ev x, j with
    | .t2 a _, 0 => some ⟨a, [], []⟩
    | .t2 _ b, 1 => some ⟨b, [], []⟩
    | _, _ => none
  | .makeSlice t l c => match tab t, st.ev l, st.ev c with
    | some ti, .c (.i .i64 n), .c (.i .i64 n') => match ti.d with
      | .slice e => match tab e with
        | some te => if n = n' ∧ 0 ≤ n ∧ 0 < te.sz ∧ n ≤ 9223372036854775807 ∧ te.by_ * n ≤ 281474976710656 then
            newA st o.dst fun m => (.c (.slc m 0 te.sz n.toNat (some n.toNat)), ⟨List.replicate n.toNat te.zero, te.sz, e, true, some n.toNat⟩) else none
        | none => none
      | _ => none
    | _, _, _ => none
  | .slice t x (some lo) none none => match tab t, st.ev x, st.ev lo with
    | some ti, .c (.slc n row w len (some cp)), .c (.i .i64 v) => match ti.d with
      | .slice e => match tab e with
        | some te => if te.sz = w ∧ 0 ≤ v ∧ v ≤ len then some ⟨.c (.slc n (if cp = v.toNat then row else row + v.toNat) w (len - v.toNat) (some (cp - v.toNat))), [], []⟩ else none
        | none => none
      | _ => none
    | _, _, _ => none
  | .makeFunc (.func f) first caps => if first.size = 0 then match evArgs st caps.toList with
      | some vs => if vs.all (fun v => match v with | .c _ => true | _ => false) then some ⟨.fn f (vs.filterMap fun v => match v with | .c x => some x | _ => none), [], []⟩ else none
      | none => none else none
  | .call { callee := .builtin .append, args, argTypes } => match args.toList, argTypes.toList with
    | [s, x], [t, t'] => if t = t' then appendA tab t st o.dst (st.ev s) (st.ev x) else none
    | _, _ => none
  | .call { callee := .builtin b, args, argTypes } => match evArgs st args.toList with
    | some vs => match b, argTypes.toList with
      | .len, [t] => match tab t with
        | some ti => (match ti.d with | .slice _ => (builtinA b vs).map fun v => ⟨v, [], []⟩ | _ => none)
        | none => none
      | .len, _ => none
      | _, _ => (builtinA b vs).map fun v => ⟨v, [], []⟩
    | none => none
  | _ => none
/-- What an operation may do: what evOp says, or what is known of the function that is called. -/
def EvR (tab : Tab) (EQ : TypeId → Option Shp) (C : Orc) (st : St) (o : Oper) (e : Eff) : Prop :=
  match o.op with
  | .call { callee := .value x, args, argTypes := _ } => match st.ev x, evArgs st args.toList with
    | .fn f caps, some vs => callR C f o.dst st (vs ++ caps.map .c) e
    | _, _ => False
  | _ => evOp tab EQ st o = some e
def updH (h : Nm → Option Blk) : List (Nm × Blk) → Nm → Option Blk
  | [], n => h n
  | (m, b) :: rest, n => if n = m then some b else updH h rest n
def St.app (st : St) (d : Option Tmp) (e : Eff) : St :=
  { st with slots := fun s => if d = some s then e.val else st.slots s, heap := updH st.heap e.blks }
def undE : Eff := ⟨.ext undef, [], []⟩
def isBoolV : Value → Bool
  | .bool _ => true
  | _ => false
/-- Is the operation carried out? -/
def guardA (ops : Array Oper) (st : St) (o : Oper) : Option Bool :=
  match o.guard with
  | none => some true
  | some (j, want) => match (ops[j]?).bind (·.dst) with
    | some d => match st.slots d with
      | .c (.b t) => some (t == want)
      | .ext v => if isBoolV v then none else some false
      | _ => none
    | none => none
/-- What an operation touches: the slots that it reads, the one that it writes, the names that it asks and writes. -/
structure FP where
  rs : List Nat
  ws : Option Nat
  rn : List Nat
  wn : List Nat
def tmpsOf (ops : Array Oper) (o : Oper) : List Nat := o.looksAt ops
def fpOf (ops : Array Oper) (o : Oper) (e : Eff) : FP := ⟨tmpsOf ops o, o.dst, e.rd.map (·.1), e.blks.map (·.1.1)⟩
/-- The names that were asked and written, without their rounds. -/
abbrev HF := List Nat × List Nat
def hfOf (e : Eff) : HF := (e.rd.map (·.1), e.blks.map (·.1.1))
def zipFP (all : Array Oper) : List Oper → List HF → List FP
  | o :: os, h :: hs => ⟨tmpsOf all o, o.dst, h.1, h.2⟩ :: zipFP all os hs
  | _, _ => []
/-- An operation is carried out, or not, as its guard says. -/
def opGo (tab : Tab) (EQ : TypeId → Option Shp) (C : Orc) (all : Array Oper) (o : Oper) (st : St) (K : HF → St → Prop) : Prop :=
  match guardA all st o with
  | none => False
  | some g => (g = true → ∃ e, EvR tab EQ C st o e ∧ K (hfOf e) (st.app o.dst e)) ∧ (g = false → K ([], []) (st.app o.dst undE))
def regGo (tab : Tab) (EQ : TypeId → Option Shp) (C : Orc) (all : Array Oper) : List Oper → St → List HF → (List HF → St → Prop) → Prop
  | [], st, acc, K => K acc st
  | o :: os, st, acc, K => opGo tab EQ C all o st fun hf st' => regGo tab EQ C all os st' (acc ++ [hf]) K
def bindsE (e : Edge) : Bool := Region.binds .any e
/-- The operations that must come before each one, as bits. -/
def ancs (ops : List Oper) : List Nat :=
  ops.foldl (init := []) fun acc o => acc ++ [o.after.toList.foldl (init := 0) fun s e => if bindsE e then s ||| 2 ^ e.on ||| acc.getD e.on 0 else s]
def edgesOK (ops : List Oper) (an : List Nat) : Bool :=
  (List.range ops.length).all fun i =>
    match ops[i]? with
    | none => false
    | some o => (o.after.toList.all fun e => !bindsE e || decide (e.on < i)) &&
      (List.range ops.length).all fun j => !(an.getD i 0).testBit j || o.after.toList.any fun e => bindsE e && (e.on == j || (an.getD e.on 0).testBit j)
def meetL (x y : List Nat) : Bool := x.any (y.contains ·)
def meetO (x : Option Nat) (y : List Nat) : Bool := match x with | none => false | some d => y.contains d
def clash (x y : FP) : Bool := meetO x.ws y.rs || meetO y.ws x.rs || (match x.ws, y.ws with | some a, some b => a == b | _, _ => false) ||
  meetL x.wn y.rn || meetL y.wn x.rn || meetL x.wn y.wn
/-- What touches one thing is ordered by the region's edges. -/
def ordOK (ops : List Oper) (fps : List FP) : Bool :=
  let an := ancs ops
  edgesOK ops an && (List.range ops.length).all fun i => (List.range i).all fun j =>
    match fps[i]?, fps[j]? with
    | some x, some y => !clash x y || (an.getD i 0).testBit j
    | _, _ => false
/-- What is to be checked of a region that draws its order: a closed fact. -/
def drawOK (ops : Array Oper) (hf : List HF) : Bool := ordOK ops.toList (zipFP ops ops.toList hf)
def St.bump (st : St) : St := { st with gen := st.gen + 1 }
def St.Fresh (st : St) : Prop := ∀ d g, st.gen < g → st.heap (d, g) = none
def bd (h : Nm → Option Blk) : Nm → Prop := fun n => (h n).isSome = true
/-- What the state says stands on its own: it names no block that it does not know. -/
def St.Closed (s : St) : Prop := (∀ k, s.slots k = .und ∨ (s.slots k).ok (bd s.heap)) ∧
  (∀ n b r, s.heap n = some b → r ∈ b.rows → ∀ c ∈ r, Cell.ok (bd s.heap) c) ∧ s.Fresh
/-- s says no more than t. -/
def Le (s t : St) : Prop := (∀ k, s.slots k = .und ∨ s.slots k = t.slots k) ∧ (∀ n b, s.heap n = some b → t.heap n = some b) ∧ (s.k = t.k ∧ ∀ i, i < t.k → s.heap (i, 0) = t.heap (i, 0)) ∧ s.Closed
/-- What a block of s is called in t; a block of s without a name there is a nil slice. -/
abbrev Rn := Nm → Option Nm
def Cell.gh (ρ : Rn) : Cell → Cell
  | .ptr n row w col => match ρ n with
    | some m => .ptr m row w col
    | none => .nilp
  | .slc n row w len cap => match ρ n with
    | some m => .slc m row w len cap
    | none => .nils
  | c => c
def Cell.ghOK (ρ : Rn) : Cell → Prop
  | .ptr n _ _ _ => match ρ n with
    | some _ => True
    | none => False
  | .slc n _ _ len cap => match ρ n with
    | some _ => True
    | none => len = 0 ∧ cap.getD 0 = 0
  | _ => True
def AV.gh (ρ : Rn) : AV → AV
  | .und => .und
  | .c x => .c (x.gh ρ)
  | .agg l => .agg (l.map (Cell.gh ρ))
  | .fn f caps => .fn f (caps.map (Cell.gh ρ))
  | .t2 a b => .t2 (a.gh ρ) (b.gh ρ)
  | .ext v => .ext v
def ghOKs (ρ : Rn) : List Cell → Prop
  | [] => True
  | c :: l => c.ghOK ρ ∧ ghOKs ρ l
def AV.ghOK (ρ : Rn) : AV → Prop
  | .c x => x.ghOK ρ
  | .agg l => ghOKs ρ l
  | .fn _ caps => ghOKs ρ caps
  | .t2 a b => a.ghOK ρ ∧ b.ghOK ρ
  | _ => True
def Blk.gh (ρ : Rn) (b : Blk) : Blk := { b with rows := b.rows.map (List.map (Cell.gh ρ)) }
/-- s says no more than t, with other names. -/
structure LeG (ρ : Rn) (s t : St) : Prop where
  slots : ∀ k, s.slots k = .und ∨ ((s.slots k).ghOK ρ ∧ t.slots k = (s.slots k).gh ρ)
  heap : ∀ n b, s.heap n = some b → match ρ n with
    | some m => t.heap m = some (b.gh ρ) ∧ ∀ r ∈ b.rows, ∀ c ∈ r, c.ghOK ρ
    | none => b.rows = [] ∧ b.cap.getD 0 = 0
  inj : ∀ n n' m, bd s.heap n → bd s.heap n' → ρ n = some m → ρ n' = some m → n = n'
  kk : s.k = t.k
  anc : ∀ i, i < t.k → ρ (i, 0) = some (i, 0) ∧ (bd t.heap (i, 0) → bd s.heap (i, 0))
  closed : s.Closed
def Cov (s t : St) : Prop := ∃ ρ, LeG ρ s t
/-- A loop, round by round, at most n rounds. -/
def loopN (body : (Exit → St → Prop) → St → Prop) (Q : Exit → St → Prop) : Nat → St → Prop
  | 0, _ => False
  | n + 1, st => body (fun e st' => match e with
      | .normal => loopN body Q n st'
      | e => Q e st') st.bump
def wpC (tab : Tab) (EQ : TypeId → Option Shp) (C : Orc) : Code → (Exit → St → Prop) → St → Prop
  | .skip, Q, st => Q .normal st
  | .region _ ops draw, Q, st => regGo tab EQ C ops ops.toList st [] fun hf st' => (draw = true → drawOK ops hf = true) ∧ Q .normal st'
  | .seq x y, Q, st => wpC tab EQ C x (fun e st' => match e with
      | .normal => wpC tab EQ C y Q st'
      | e => Q e st') st
  | .cond c x y, Q, st => match st.ev c with
      | .c (.b t) => (t = true → wpC tab EQ C x Q st) ∧ (t = false → wpC tab EQ C y Q st)
      | _ => False
  | .block id x, Q, st => wpC tab EQ C x (fun e st' => match e with
      | .exit id' => if id' = id then Q .normal st' else Q (.exit id') st'
      | e => Q e st') st
  | .loop x, Q, st => (∃ n, loopN (wpC tab EQ C x) Q n st) ∨ ∃ I : Nat → St → Prop, (∃ n s, I n s ∧ Cov s st) ∧ ∀ n s, I n s → wpC tab EQ C x (fun e st' => match e with
      | .normal => ∃ m s', m < n ∧ I m s' ∧ Cov s' st'
      | e => ∃ s', Cov s' st' ∧ Q e s') s
  | .exit id, Q, st => Q (.exit id) st
  | .ret, Q, st => Q .ret st
  | .label _, Q, st => Q .normal st
  | _, _, _ => False
end Go.AbsK

namespace Go.AbsK
open Go.RowKit

structure BlkRel (base : Nat) (w : World) (ν : Env) (D : Nm → Prop) (n : Nm) (blk : Blk) : Prop where
  width : ∀ r ∈ blk.rows, r.length = blk.w
  read : ∀ row r j c, blk.rows[row]? = some r → r[j]? = some c → c.ok D ∧ w.cell? ((ν n).1.add (row * blk.w + j)) = some (c.conc ν) ∧ (blk.own = false → (ν n).1.block < base)
  nil : (ν n).1.spot ≠ none → blk.rows = [] ∧ (ν n).2 = 0 ∧ ∀ c, blk.cap = some c → c = 0
  own : blk.own = true → (ν n).1.spot = none → (ν n).1.off = 0 ∧ base ≤ (ν n).1.block ∧ blk.rows.length ≤ (ν n).2 ∧ (ν n).2 ≤ maxLen ∧ (∀ c, blk.cap = some c → (ν n).2 = c) ∧
    ∃ arr, w.heap[(ν n).1.block]? = some (.cells arr blk.ty (0, 0)) ∧ arr.size = (ν n).2 * blk.w
/-- What was there at the entry: the world, the names that were bound, where they stood. -/
structure Anch where
  w : World
  D : Nm → Prop
  ν : Env
  dl : List Deferred
structure HRel (base : Nat) (w0 : Anch) (ν : Env) (h : Nm → Option Blk) (gen : Nat) (w : World) : Prop where
  heap : ∀ n blk, h n = some blk → BlkRel base w ν (bd h) n blk
  inj : ∀ n n' blk blk', h n = some blk → h n' = some blk' → blk.own = true → blk'.own = true → (ν n).1.spot = none → (ν n').1.spot = none → n ≠ n' → (ν n).1.block ≠ (ν n').1.block
  below : Below base w0.w w
  anc : ∀ n, w0.D n → n.2 = 0 ∧ bd h n ∧ ν n = w0.ν n
  base_le : base ≤ w.heap.size
  fresh : ∀ d g, gen < g → h (d, g) = none
  oth : KeepsOthers w0.w w
theorem keeps_of_below {w w' : World} (h : Below w.heap.size w w') : KeepsOthers w w' := ⟨h.size, fun k _ hk _ => (h.block k (Array.getElem?_eq_some_iff.1 hk).1).trans hk⟩
structure Rel (base : Nat) (w0 : Anch) (N : Nat) (ν : Env) (st : St) (a : Act) (w : World) : Prop where
  defers : a.defers = w0.dl
  size : a.tmps.size = N
  slots : ∀ s, RV ν (bd st.heap) (a.tmps.getD s undef) (st.slots s)
  hr : HRel base w0 ν st.heap st.gen w
  ank : ∀ n, w0.D n → n.1 < st.k
section
variable {base : Nat} {w0 : Anch} {N : Nat} {ν : Env} {st : St} {a : Act} {w : World}
theorem bd_updH (h : Nm → Option Blk) (l : List (Nm × Blk)) (n : Nm) (hn : bd h n) : bd (updH h l) n := by
  induction l with
  | nil => exact hn
  | cons p l ih =>
    obtain ⟨m, b⟩ := p
    show (if n = m then some b else updH h l n).isSome = true
    split
    · rfl
    · exact ih
theorem Rel.value (hR : Rel base w0 N ν st a w) {d : Option Tmp} {e : Eff} {v : Value} {w' : World} {ν' : Env} (hd : ∀ s, d = some s → s < N)
    (hν : ∀ n, bd st.heap n → ν' n = ν n) (hv : RV ν' (bd (updH st.heap e.blks)) v e.val) (hh : HRel base w0 ν' (updH st.heap e.blks) st.gen w') :
    Rel base w0 N ν' (st.app d e) (a.put d v) w' := by
  refine ⟨?_, ?_, ?_, hh, hR.ank⟩
  · cases d <;> exact hR.defers
  · cases d
    · exact hR.size
    · simp only [Act.put, Array.size_setIfInBounds]; exact hR.size
  · intro s
    have old := (hR.slots s).mono (D' := bd (updH st.heap e.blks)) (ν' := ν') (fun n hn => bd_updH _ _ _ hn) hν
    cases d with
    | none => simpa [Act.put, St.app] using old
    | some d =>
      by_cases hs : d = s
      · subst hs
        have hlt := hd d rfl
        rw [← hR.size] at hlt
        simp only [Act.put, St.app, if_true]
        rw [Array.getD_eq_getD_getElem?, Array.getElem?_setIfInBounds_self, if_pos hlt]
        exact hv
      · simp only [Act.put, St.app]
        rw [if_neg (by simpa using hs), Array.getD_eq_getD_getElem?, Array.getElem?_setIfInBounds_ne hs, ← Array.getD_eq_getD_getElem?]
        exact old
/-- What yields a value and makes no memory. -/
theorem Rel.pure (hR : Rel base w0 N ν st a w) {d : Option Tmp} {v : Value} {x : AV} {rd : List Nm} (hd : ∀ s, d = some s → s < N) (hv : RV ν (bd st.heap) v x) :
    Rel base w0 N ν (st.app d ⟨x, [], rd⟩) (a.put d v) w :=
  hR.value (e := ⟨x, [], rd⟩) hd (fun _ _ => rfl) hv hR.hr
theorem Rel.ev (hR : Rel base w0 N ν st a w) (x : Operand) : RV ν (bd st.heap) (a.eval x) (st.ev x) := by
  cases x with
  | tmp t => exact hR.slots t
  | const v =>
    show RV ν (bd st.heap) v (constOf v)
    unfold constOf
    split <;> first | exact .inr ⟨trivial, rfl⟩ | exact .inl rfl
  | global g => exact .inl rfl
  | func f => exact .inr ⟨(by intro x hx; cases hx), rfl⟩
theorem Rel.ev_c (hR : Rel base w0 N ν st a w) {x : Operand} {c : Cell} (h : st.ev x = .c c) : c.ok (bd st.heap) ∧ a.eval x = c.conc ν := by
  rcases hR.ev x with h' | h'
  · rw [h] at h'; cases h'
  · rw [h] at h'; exact h'
theorem Rel.ev_agg (hR : Rel base w0 N ν st a w) {x : Operand} {l : List Cell} (h : st.ev x = .agg l) : (∀ c ∈ l, c.ok (bd st.heap)) ∧ a.eval x = .agg (concs ν l) := by
  rcases hR.ev x with h' | h'
  · rw [h] at h'; cases h'
  · rw [h] at h'; exact h'
theorem Rel.ev_some (hR : Rel base w0 N ν st a w) {x : Operand} {v : AV} (h : st.ev x = v) (hv : v ≠ .und) : v.ok (bd st.heap) ∧ a.eval x = v.conc ν := by
  rcases hR.ev x with h' | h'
  · exact absurd (h.symm.trans h') hv
  · rw [h] at h'; exact h'
end

/-- The outcome of an operation: a value (or nothing), and the abstract state behind it. -/
def Out (P : Program) (base : Nat) (w0 : Anch) (N : Nat) (st : St) (a : Act) (w : World) (o : Oper) (e : Eff) : Prop :=
  ∃ v w' ν', ((execOp a.eval o).run P w = .ok (.value v) w' ∨ (o.dst = none ∧ (execOp a.eval o).run P w = .ok .skip w')) ∧ Rel base w0 N ν' (st.app o.dst e) (a.put o.dst v) w'
section
variable {P : Program} {tab : Tab} {EQ : TypeId → Option Shp} {C : Orc} {base : Nat} {w0 : Anch} {N : Nat} {ν : Env} {st : St} {a : Act} {w : World} {o : Oper} {e : Eff}
theorem out_pure (hR : Rel base w0 N ν st a w) (hd : ∀ s, o.dst = some s → s < N) {v : Value} {x : AV} {rd : List Nm} (hrun : (execOp a.eval o).run P w = .ok (.value v) w) (hv : RV ν (bd st.heap) v x) (he : e = ⟨x, [], rd⟩) : Out P base w0 N st a w o e := by
  subst he
  exact ⟨v, w, ν, .inl hrun, hR.pure hd hv⟩
theorem ti_isAgg {t : TypeId} {ti : TI} (h : TIok P t ti) (w : World) : (isAgg t).run P w = .ok ti.d.isAgg w := by
  obtain ⟨d, sz, by_, zero⟩ := ti
  have hu := h.und
  have key : ∀ (d' : TypeDesc) (b : Bool), P.underlying t = some d' → isAggD d' = b → (isAgg t).run P w = .ok b w := by
    intro d' b hd hb
    unfold isAgg
    simp only [Sem.run_bind, run_underlying hd, Result.andThen]
    subst hb
    unfold isAggD
    split <;> simp_all
  cases d <;> simp only at hu
  · exact key _ _ hu rfl
  · exact key _ _ hu rfl
  · exact key _ _ hu rfl
  · obtain ⟨d, h1, h2⟩ := hu
    exact key _ _ h1 h2
  · obtain ⟨fields, h1, _⟩ := hu
    exact key _ _ h1 rfl
  · obtain ⟨e, h1, _⟩ := hu
    exact key _ _ h1 rfl
  · exact key _ _ hu rfl
theorem ti_underl {t : TypeId} {ti : TI} (h : TIok P t ti) : ∃ d, P.underlying t = some d := by
  obtain ⟨d, sz, by_, zero⟩ := ti
  have hu := h.und
  cases d <;> simp only at hu
  · exact ⟨_, hu⟩
  · exact ⟨_, hu⟩
  · exact ⟨_, hu⟩
  · exact ⟨_, hu.choose_spec.1⟩
  · exact ⟨_, hu.choose_spec.1⟩
  · exact ⟨_, hu.choose_spec.1⟩
  · exact ⟨_, hu⟩
theorem op_move (hR : Rel base w0 N ν st a w) (hd : ∀ s, o.dst = some s → s < N) {x : Operand} (ho : o.op = .move x ∨ o.op = .assign x) (he : e = ⟨st.ev x, [], []⟩) : Out P base w0 N st a w o e := by
  refine out_pure hR hd ?_ (hR.ev x) he
  rcases ho with ho | ho <;> simp [execOp, ho]
theorem op_pick (hR : Rel base w0 N ν st a w) (hd : ∀ s, o.dst = some s → s < N) {c x y : Operand} {t : Bool} (ho : o.op = .pick c x y) (hc : st.ev c = .c (.b t)) (he : e = ⟨if t then st.ev x else st.ev y, [], []⟩) : Out P base w0 N st a w o e := by
  obtain ⟨-, hc'⟩ := hR.ev_c hc
  cases t
  · refine out_pure hR hd ?_ (hR.ev y) he
    simp [execOp, ho, hc', Cell.conc, asBool]
  · refine out_pure hR hd ?_ (hR.ev x) he
    simp [execOp, ho, hc', Cell.conc, asBool]
theorem op_extract (hR : Rel base w0 N ν st a w) (hd : ∀ s, o.dst = some s → s < N) {x : Operand} {j : Nat} (ho : o.op = .extract x j) {p q : AV} (hx : st.ev x = .t2 p q) {r : AV} (hj : (j = 0 ∧ r = p) ∨ (j = 1 ∧ r = q)) (he : e = ⟨r, [], []⟩) : Out P base w0 N st a w o e := by
  obtain ⟨hok, hv⟩ := hR.ev_some hx (by simp)
  rcases hj with ⟨rfl, rfl⟩ | ⟨rfl, rfl⟩
  · refine out_pure hR hd (v := r.conc ν) ?_ (.inr ⟨hok.1, rfl⟩) he
    simp [execOp, ho, hv, AV.conc, Instr.extract]
  · refine out_pure hR hd (v := r.conc ν) ?_ (.inr ⟨hok.2, rfl⟩) he
    simp [execOp, ho, hv, AV.conc, Instr.extract]
theorem op_convert (hR : Rel base w0 N ν st a w) (hd : ∀ s, o.dst = some s → s < N) (hT : TabOK P tab) {s d : TypeId} {x : Operand} (ho : o.op = .convert s d x) {ts td : TI} (hs : tab s = some ts) (hdt : tab d = some td) {k k' : IntKind} {n : Int} (hk : td.d = .int k) (hx : st.ev x = .c (.i k' n)) (he : e = ⟨.c (.i k (k.wrap n)), [], []⟩) : Out P base w0 N st a w o e := by
  obtain ⟨-, hv⟩ := hR.ev_c hx
  obtain ⟨ds, hds⟩ := ti_underl (hT s ts hs)
  have hdd := (hT d td hdt).und
  rw [hk] at hdd
  refine out_pure hR hd (v := .int k (k.wrap n)) (x := .c (.i k (k.wrap n))) ?_ (.inr ⟨trivial, rfl⟩) he
  simp only [execOp, ho, hv, Cell.conc, convert, Sem.run_bind, run_underlying hds, run_underlying hdd, Result.andThen]
  simp [Conv.intToInt]
theorem op_unOp (hR : Rel base w0 N ν st a w) (hd : ∀ s, o.dst = some s → s < N) {op : UnOp} {t : TypeId} {x : Operand} (ho : o.op = .unOp op t x) {c r : Cell} (hx : st.ev x = .c c)
    (hr : (∃ k n, op = .neg ∧ c = .i k n ∧ r = .i k (k.wrap (0 - n))) ∨ (∃ k n, op = .xor ∧ c = .i k n ∧ r = .i k (bits .xor k (if k.signed then -1 else k.max) n)) ∨ (∃ b, op = .not ∧ c = .b b ∧ r = .b (!b))) (he : e = ⟨.c r, [], []⟩) : Out P base w0 N st a w o e := by
  obtain ⟨-, hv⟩ := hR.ev_c hx
  rcases hr with ⟨k, n, rfl, rfl, rfl⟩ | ⟨k, n, rfl, rfl, rfl⟩ | ⟨b, rfl, rfl, rfl⟩
  · refine out_pure hR hd (v := .int k (k.wrap (0 - n))) (x := .c (.i k (k.wrap (0 - n)))) ?_ (.inr ⟨trivial, rfl⟩) he
    simp [execOp, ho, hv, Cell.conc, Op.unary, Op.intArith]
  · refine out_pure hR hd (v := .int k (bits .xor k (if k.signed then -1 else k.max) n)) (x := .c (.i k (bits .xor k (if k.signed then -1 else k.max) n))) ?_ (.inr ⟨trivial, rfl⟩) he
    simp only [execOp, ho, hv, Cell.conc, Op.unary, Op.intBits, bits]
    rfl
  · refine out_pure hR hd (v := .bool (!b)) (x := .c (.b (!b))) ?_ (.inr ⟨trivial, rfl⟩) he
    simp [execOp, ho, hv, Cell.conc, Op.unary]
/-- The struct types whose comparison goes cell by cell. -/
def EqOK (P : Program) (EQ : TypeId → Option Shp) : Prop := ∀ t sh, EQ t = some sh → ∀ (x y : List Cell) (r : Bool) (ν : Env) (w : World), eqCells sh x y = some r →
  (eqGuard .eql t (.tmp 0) (.tmp 0) (.agg (concs ν x)) (.agg (concs ν y))).run P w = .ok () w ∧ (Op.equal t (.agg (concs ν x)) (.agg (concs ν y))).run P w = .ok r w
theorem run_binInt {op : BinOp} {k : IntKind} {x y : Int} {c : Cell} (t : TypeId) (hs : isShift op = false) (h : binInt op k x y = some c) (w : World) : (binOp op t (.int k x) (.int k y)).run P w = .ok (c.conc ν) w := by
  cases op <;> simp only [binInt, isShift, reduceCtorEq, Option.some.injEq] at h hs <;> try (subst h; simp [binOp, Op.intArith, Op.intBits, Op.intCmp, bits, Cell.conc])
  all_goals
    split at h
    · cases h
    · rename_i hy
      injection h with h
      subst h
      simp [binOp, Op.intDiv, hy, Cell.conc]
theorem run_shiftInt {op : BinOp} {k k' : IntKind} {x y : Int} {c : Cell} (t : TypeId) (h : shiftInt op k x y = some c) (w : World) : (binOp op t (.int k x) (.int k' y)).run P w = .ok (c.conc ν) w := by
  cases op <;> simp only [shiftInt, reduceCtorEq] at h
  all_goals
    split at h
    · cases h
    · rename_i hy
      injection h with h
      subst h
      simp [binOp, Op.shift, hy, Cell.conc]
theorem run_eqGuard_int (op : BinOp) (t : TypeId) (x y : Operand) (k k' : IntKind) (m n : Int) (w : World) : (eqGuard op t x y (.int k m) (.int k' n)).run P w = .ok () w := by
  unfold eqGuard
  cases op <;> simp
theorem run_eqGuard_bool (op : BinOp) (t : TypeId) (x y : Operand) (m n : Bool) (w : World) : (eqGuard op t x y (.bool m) (.bool n)).run P w = .ok () w := by
  unfold eqGuard
  cases op <;> simp
theorem eqGuard_any (op : BinOp) (hop : op = .eql ∨ op = .neq) (t : TypeId) (x y x' y' : Operand) (xs ys : Array Value) : eqGuard op t x y (.agg xs) (.agg ys) = eqGuard .eql t x' y' (.agg xs) (.agg ys) := by
  rcases hop with rfl | rfl <;> rfl
theorem run_eq_bool (t : TypeId) (hu : P.underlying t = some .bool) (m n : Bool) (w : World) : (Op.equal t (.bool m) (.bool n)).run P w = .ok (m == n) w := by
  show (Op.equalIn (9999 + 1) t (.bool m) (.bool n)).run P w = _
  rw [Op.equalIn]
  simp only [Sem.run_bind, run_underlying hu, Result.andThen]
  simp
theorem run_size {t : TypeId} {inf : TypeInfo} {n : Nat} (h : P.info? t = some inf) (hn : inf.size = n) (w : World) : (sizeOf t).run P w = .ok n w := by
  unfold sizeOf
  simp only [Sem.run_bind, run_typeInfo w h, Result.andThen]
  simp [hn]
theorem op_bin (hR : Rel base w0 N ν st a w) (hd : ∀ s, o.dst = some s → s < N) (hT : TabOK P tab) (hE : EqOK P EQ) {op : BinOp} {t yt : TypeId} {x y : Operand} (ho : o.op = .binOp op t x y yt) {r : AV} (hr : binA EQ tab op t (st.ev x) (st.ev y) = some r) (he : e = ⟨r, [], []⟩) : Out P base w0 N st a w o e := by
  unfold binA at hr
  split at hr
  · rename_i k m k' n hx hy
    obtain ⟨-, hx'⟩ := hR.ev_c hx
    obtain ⟨-, hy'⟩ := hR.ev_c hy
    split at hr
    · obtain ⟨c, hc, rfl⟩ := Option.map_eq_some_iff.1 hr
      refine out_pure hR hd (v := c.conc ν) (x := .c c) ?_ (.inr ⟨?_, rfl⟩) he
      · simp only [execOp, ho, hx', hy', Cell.conc, Sem.run_bind, run_eqGuard_int, run_shiftInt (ν := ν) t hc, Result.andThen]
        simp
      · cases op <;> simp only [shiftInt, reduceCtorEq] at hc
        all_goals
          split at hc
          · cases hc
          · injection hc with hc; subst hc; trivial
    · rename_i hsh
      split at hr
      · rename_i hk
        subst hk
        obtain ⟨c, hc, rfl⟩ := Option.map_eq_some_iff.1 hr
        refine out_pure hR hd (v := c.conc ν) (x := .c c) ?_ (.inr ⟨?_, rfl⟩) he
        · simp only [execOp, ho, hx', hy', Cell.conc, Sem.run_bind, run_eqGuard_int, run_binInt (ν := ν) t (by simpa using hsh) hc, Result.andThen]
          simp
        · cases op <;> simp only [binInt, reduceCtorEq, Option.some.injEq] at hc <;> try (subst hc; trivial)
          all_goals
            split at hc
            · cases hc
            · injection hc with hc; subst hc; trivial
      · cases hr
  · rename_i m n hx hy
    obtain ⟨-, hx'⟩ := hR.ev_c hx
    obtain ⟨-, hy'⟩ := hR.ev_c hy
    split at hr
    · rename_i ti hti
      have hu := (hT t ti hti).und
      split at hr
      · rename_i hb
        rw [hb] at hu
        injection hr with hr
        subst hr
        refine out_pure hR hd (v := .bool (m == n)) (x := .c (.b (m == n))) ?_ (.inr ⟨trivial, rfl⟩) he
        simp only [execOp, ho, hx', hy', Cell.conc, Sem.run_bind, run_eqGuard_bool, Result.andThen, binOp, run_eq_bool t hu]
        simp
      · rename_i hb
        rw [hb] at hu
        injection hr with hr
        subst hr
        refine out_pure hR hd (v := .bool (m != n)) (x := .c (.b (m != n))) ?_ (.inr ⟨trivial, rfl⟩) he
        simp only [execOp, ho, hx', hy', Cell.conc, Sem.run_bind, run_eqGuard_bool, Result.andThen, binOp, run_eq_bool t hu]
        simp [bne]
      · cases hr
    · cases hr
  · rename_i xs ys hx hy
    obtain ⟨-, hx'⟩ := hR.ev_agg hx
    obtain ⟨-, hy'⟩ := hR.ev_agg hy
    split at hr
    · rename_i sh hq
      split at hr
      · obtain ⟨b, hb, rfl⟩ := Option.map_eq_some_iff.1 hr
        obtain ⟨h1, h2⟩ := hE t sh hq xs ys b ν w hb
        refine out_pure hR hd (v := .bool b) (x := .c (.b b)) ?_ (.inr ⟨trivial, rfl⟩) he
        simp only [execOp, ho, hx', hy', Sem.run_bind, eqGuard_any _ (.inl rfl) t x y (.tmp 0) (.tmp 0), h1, h2, Result.andThen, binOp]
        simp
      · obtain ⟨b, hb, rfl⟩ := Option.map_eq_some_iff.1 hr
        obtain ⟨h1, h2⟩ := hE t sh hq xs ys b ν w hb
        refine out_pure hR hd (v := .bool (!b)) (x := .c (.b (!b))) ?_ (.inr ⟨trivial, rfl⟩) he
        simp only [execOp, ho, hx', hy', Sem.run_bind, eqGuard_any _ (.inr rfl) t x y (.tmp 0) (.tmp 0), h1, h2, Result.andThen, binOp]
        simp
      · cases hr
    · cases hr
  · cases hr
theorem add_add (x : Addr) (m n : Nat) : (x.add m).add n = x.add (m + n) := by
  unfold Addr.add
  by_cases hm : m = 0
  · subst hm; simp
  · by_cases hn : n = 0
    · subst hn; simp [hm]
    · rw [if_neg hm, if_neg hn, if_neg (by omega)]
      simp [Nat.add_assoc]
theorem op_fieldAddr (hR : Rel base w0 N ν st a w) (hd : ∀ s, o.dst = some s → s < N) (hT : TabOK P tab) {s : TypeId} {x : Operand} {f : Nat} (ho : o.op = .fieldAddr s x f) {ti : TI} (hs : tab s = some ti) {fs : List (Nat × Nat × Bool)} (hf : ti.d = .struct fs)
    {off sz : Nat} {ag : Bool} (hff : fs[f]? = some (off, sz, ag)) {n : Nm} {row wd col : Nat} (hx : st.ev x = .c (.ptr n row wd col)) (he : e = ⟨.c (.ptr n row wd (col + off)), [], []⟩) : Out P base w0 N st a w o e := by
  obtain ⟨hok, hv⟩ := hR.ev_c hx
  have hu := (hT s ti hs).und
  rw [hf] at hu
  obtain ⟨fields, h1, h2, h3⟩ := hu
  have hlt : f < fields.size := by rw [h2]; exact (List.getElem?_eq_some_iff.1 hff).1
  obtain ⟨off', sz', ag', h4, h5, h6, ⟨inf, h7, h8⟩, -⟩ := h3 f fields[f] (Array.getElem?_eq_getElem hlt)
  rw [hff] at h4
  simp only [Option.some.injEq, Prod.mk.injEq] at h4
  obtain ⟨rfl, rfl, rfl⟩ := h4
  refine out_pure hR hd (v := .pointer (some ((ν n).1.add (row * wd + (col + off))))) (x := .c (.ptr n row wd (col + off))) ?_ (.inr ⟨hok, rfl⟩) he
  have hne : ¬ inf.size = 0 := by omega
  simp only [execOp, ho, hv, Cell.conc, Instr.fieldAt, Instr.sureAddr, fieldPlace, Sem.run_bind, run_underlying h1, run_size h7 h8, Result.andThen, Array.getElem?_eq_getElem hlt, Sem.run_pure, if_neg (show ¬ sz = 0 by omega), h5, add_add, Nat.add_assoc]
theorem concs_get (ν : Env) (l : List Cell) (j : Nat) : (concs ν l)[j]? = (l[j]?).map (·.conc ν) := by simp [concs]
theorem concs_size (ν : Env) (l : List Cell) : (concs ν l).size = l.length := by simp [concs]
theorem concs_extract (ν : Env) (l : List Cell) (i j : Nat) : (concs ν l).extract i j = concs ν ((l.drop i).take (j - i)) := by
  apply Array.ext_getElem?
  intro k
  rw [Array.getElem?_extract, concs_get, concs_size, concs_get, List.getElem?_take, List.getElem?_drop]
  by_cases h : k < min j l.length - i
  · rw [if_pos h, if_pos (by omega)]
  · rw [if_neg h]
    by_cases h' : k < j - i
    · rw [if_pos h', List.getElem?_eq_none (by omega)]; rfl
    · rw [if_neg h']; rfl
/-- A part of a struct's or an array's value. -/
theorem run_part {t : TypeId} {inf : TypeInfo} {sz : Nat} {d : TypeDesc} {ag : Bool} (h1 : P.info? t = some inf) (h2 : inf.size = sz) (h3 : P.underlying t = some d) (h4 : isAggD d = ag) {l : List Cell} {col : Nat} {r : AV} (hr : cut ag l col sz = some r) (ν : Env) (w : World) :
    (part t (concs ν l) col).run P w = .ok (r.conc ν) w := by
  have hag : (isAgg t).run P w = .ok ag w := by
    unfold isAgg
    simp only [Sem.run_bind, run_underlying h3, Result.andThen]
    subst h4
    unfold isAggD
    split <;> simp_all
  unfold part
  simp only [Sem.run_bind, hag, Result.andThen]
  unfold cut at hr
  cases ag with
  | true =>
    simp only [if_true] at hr ⊢
    split at hr
    · injection hr with hr
      subst hr
      simp only [Sem.run_bind, run_size h1 h2, Result.andThen, Sem.run_pure, AV.conc, concs_extract, Nat.add_sub_cancel_left]
    · cases hr
  | false =>
    simp only [Bool.false_eq_true, if_false] at hr ⊢
    split at hr
    · rename_i x hx
      injection hr with hr
      subst hr
      rw [concs_get, hx]
      simp [AV.conc]
    · cases hr
theorem cut_ok {D : Nm → Prop} {ag : Bool} {l : List Cell} {col sz : Nat} {r : AV} (hr : cut ag l col sz = some r) (h : ∀ c ∈ l, c.ok D) : r.ok D := by
  unfold cut at hr
  cases ag with
  | true =>
    simp only [if_true] at hr
    split at hr
    · injection hr with hr
      subst hr
      exact fun c hc => h c (List.mem_of_mem_drop (List.mem_of_mem_take hc))
    · cases hr
  | false =>
    simp only [Bool.false_eq_true, if_false] at hr
    split at hr
    · rename_i x hx
      injection hr with hr
      subst hr
      exact h x (List.mem_of_getElem? hx)
    · cases hr
theorem op_field (hR : Rel base w0 N ν st a w) (hd : ∀ s, o.dst = some s → s < N) (hT : TabOK P tab) {t : TypeId} {x : Operand} {f : Nat} (ho : o.op = .field t x f) {ti : TI} (hs : tab t = some ti) {fs : List (Nat × Nat × Bool)} (hf : ti.d = .struct fs)
    {off sz : Nat} {ag : Bool} (hff : fs[f]? = some (off, sz, ag)) {l : List Cell} (hx : st.ev x = .agg l) {r : AV} (hr : cut ag l off sz = some r) (he : e = ⟨r, [], []⟩) : Out P base w0 N st a w o e := by
  obtain ⟨hok, hv⟩ := hR.ev_agg hx
  have hu := (hT t ti hs).und
  rw [hf] at hu
  obtain ⟨fields, h1, h2, h3⟩ := hu
  have hlt : f < fields.size := by rw [h2]; exact (List.getElem?_eq_some_iff.1 hff).1
  obtain ⟨off', sz', ag', h4, h5, h6, ⟨inf, h7, h8⟩, ⟨d, h9, h10⟩⟩ := h3 f fields[f] (Array.getElem?_eq_getElem hlt)
  rw [hff] at h4
  simp only [Option.some.injEq, Prod.mk.injEq] at h4
  obtain ⟨rfl, rfl, rfl⟩ := h4
  refine out_pure hR hd (v := r.conc ν) (x := r) ?_ (.inr ⟨cut_ok hr hok, rfl⟩) he
  simp only [execOp, ho, hv, Instr.field, asAgg, Sem.run_bind, run_underlying h1, Result.andThen, Array.getElem?_eq_getElem hlt, Sem.run_pure, h5, run_part h7 h8 h9 h10 hr]
theorem op_index (hR : Rel base w0 N ν st a w) (hd : ∀ s, o.dst = some s → s < N) (hT : TabOK P tab) {t : TypeId} {x ix : Operand} (ho : o.op = .index t x ix) {ti : TI} (hs : tab t = some ti) {len esz : Nat} {ea : Bool} (hf : ti.d = .array len esz ea)
    {l : List Cell} (hx : st.ev x = .agg l) {k : IntKind} {v : Int} (hi : st.ev ix = .c (.i k v)) (h0 : 0 ≤ v ∧ v < len) {r : AV} (hr : cut ea l (v.toNat * esz) esz = some r) (he : e = ⟨r, [], []⟩) : Out P base w0 N st a w o e := by
  obtain ⟨hok, hv⟩ := hR.ev_agg hx
  obtain ⟨-, hv'⟩ := hR.ev_c hi
  have hu := (hT t ti hs).und
  rw [hf] at hu
  obtain ⟨el, h1, ⟨inf, h2, h3⟩, ⟨d, h4, h5⟩⟩ := hu
  refine out_pure hR hd (v := r.conc ν) (x := r) ?_ (.inr ⟨cut_ok hr hok, rfl⟩) he
  simp only [execOp, ho, hv, hv', Cell.conc, Instr.index, asIntOf, Sem.run_bind, run_underlying h1, Result.andThen, Sem.run_pure, if_pos h0, run_size h2 h3, run_part h2 h3 h4 h5 hr]
theorem op_indexStr (hR : Rel base w0 N ν st a w) (hd : ∀ s, o.dst = some s → s < N) (hT : TabOK P tab) {t : TypeId} {x ix : Operand} (ho : o.op = .index t x ix) {ti : TI} (hs : tab t = some ti) (hf : ti.d = .string)
    {s : ByteArray} (hx : st.ev x = .c (.str s)) {k : IntKind} {v n : Int} (hi : st.ev ix = .c (.i k v)) (h0 : strAt s v = some n) (he : e = ⟨.c (.i .u8 n), [], []⟩) : Out P base w0 N st a w o e := by
  obtain ⟨-, hv⟩ := hR.ev_c hx
  obtain ⟨-, hv'⟩ := hR.ev_c hi
  have hu := (hT t ti hs).und
  rw [hf] at hu
  have hu : P.underlying t = some .string := hu
  unfold strAt at h0
  obtain ⟨b, hb, hn⟩ := Option.map_eq_some_iff.1 h0
  refine out_pure hR hd (v := .int .u8 n) (x := .c (.i .u8 n)) ?_ (.inr ⟨trivial, rfl⟩) he
  simp only [execOp, ho, hv, hv', Cell.conc, Instr.index, asIntOf, Sem.run_bind, run_underlying hu, Result.andThen, Sem.run_pure, hb, hn]
theorem op_indexAddr_array (hR : Rel base w0 N ν st a w) (hd : ∀ s, o.dst = some s → s < N) (hT : TabOK P tab) {t : TypeId} {x ix : Operand} (ho : o.op = .indexAddr t x ix) {ti : TI} (hs : tab t = some ti) {len esz : Nat} {ea : Bool} (hf : ti.d = .array len esz ea)
    {n : Nm} {row wd col : Nat} (hx : st.ev x = .c (.ptr n row wd col)) {k : IntKind} {v : Int} (hi : st.ev ix = .c (.i k v)) (h0 : 0 ≤ v ∧ v < len) (he : e = ⟨.c (.ptr n row wd (col + v.toNat * esz)), [], []⟩) : Out P base w0 N st a w o e := by
  obtain ⟨hok, hv⟩ := hR.ev_c hx
  obtain ⟨-, hv'⟩ := hR.ev_c hi
  have hu := (hT t ti hs).und
  rw [hf] at hu
  obtain ⟨el, h1, ⟨inf, h2, h3⟩, -⟩ := hu
  refine out_pure hR hd (v := .pointer (some ((ν n).1.add (row * wd + (col + v.toNat * esz))))) (x := .c (.ptr n row wd (col + v.toNat * esz))) ?_ (.inr ⟨hok, rfl⟩) he
  simp only [execOp, ho, hv, hv', Cell.conc, Instr.indexAt, Instr.sureAddr, asIntOf, Sem.run_bind, run_underlying h1, Result.andThen, Sem.run_pure, if_pos h0, run_size h2 h3, add_add, Nat.add_assoc]
theorem op_indexAddr_slice (hR : Rel base w0 N ν st a w) (hd : ∀ s, o.dst = some s → s < N) (hT : TabOK P tab) {t : TypeId} {x ix : Operand} (ho : o.op = .indexAddr t x ix) {ti te : TI} (hs : tab t = some ti) {el : TypeId} (hf : ti.d = .slice el) (hte : tab el = some te)
    {n : Nm} {row len : Nat} {cap : Option Nat} (hx : st.ev x = .c (.slc n row te.sz len cap)) {k : IntKind} {v : Int} (hi : st.ev ix = .c (.i k v)) {blk : Blk} (hb : st.heap n = some blk) (h0 : (0 ≤ v ∧ v < len) ∧ row + v.toNat < blk.rows.length) (he : e = ⟨.c (.ptr n (row + v.toNat) te.sz 0), [], [n]⟩) : Out P base w0 N st a w o e := by
  obtain ⟨hok, hv⟩ := hR.ev_c hx
  obtain ⟨-, hv'⟩ := hR.ev_c hi
  have hu := (hT t ti hs).und
  rw [hf] at hu
  have hu : P.underlying t = some (.slice el) := hu
  obtain ⟨inf, h2, h3, -⟩ := (hT el te hte).info
  have hsp : (ν n).1.spot = none := by
    cases hq : (ν n).1.spot with
    | none => rfl
    | some q =>
      have h1 := ((hR.hr.heap n blk hb).nil (by rw [hq]; simp)).1
      have h2 := h0.2
      rw [h1] at h2
      exact absurd h2 (by simp)
  refine out_pure hR hd (v := .pointer (some ((ν n).1.add ((row + v.toNat) * te.sz + 0)))) (x := .c (.ptr n (row + v.toNat) te.sz 0)) ?_ (.inr ⟨hok, rfl⟩) he
  simp only [execOp, ho, hv, hv', Cell.conc, hsp, Option.isSome_none, Bool.false_eq_true, if_false, Instr.indexAt, asIntOf, Sem.run_bind, run_underlying hu, Result.andThen, Sem.run_pure, if_pos h0.1, run_size h2 h3, add_add, Nat.add_mul, Nat.add_zero]
theorem op_slice (hR : Rel base w0 N ν st a w) (hd : ∀ s, o.dst = some s → s < N) (hT : TabOK P tab) {t : TypeId} {x lo : Operand} (ho : o.op = .slice t x (some lo) none none) {ti te : TI} (hs : tab t = some ti) {el : TypeId} (hf : ti.d = .slice el) (hte : tab el = some te)
    {n : Nm} {row len cp : Nat} (hx : st.ev x = .c (.slc n row te.sz len (some cp))) {v : Int} (hi : st.ev lo = .c (.i .i64 v)) (h0 : 0 ≤ v ∧ v ≤ len)
    (he : e = ⟨.c (.slc n (if cp = v.toNat then row else row + v.toNat) te.sz (len - v.toNat) (some (cp - v.toNat))), [], []⟩) : Out P base w0 N st a w o e := by
  obtain ⟨hok, hv⟩ := hR.ev_c hx
  obtain ⟨-, hv'⟩ := hR.ev_c hi
  have hu := (hT t ti hs).und
  rw [hf] at hu
  have hu : P.underlying t = some (.slice el) := hu
  obtain ⟨inf, h2, h3, -⟩ := (hT el te hte).info
  refine out_pure hR hd (x := .c (.slc n (if cp = v.toNat then row else row + v.toNat) te.sz (len - v.toNat) (some (cp - v.toNat)))) ?_ (.inr ⟨hok, rfl⟩) he
  simp only [execOp, ho, hv, hv', Cell.conc, Option.map_some, Option.map_none, Instr.sliceAt, Instr.slice, Instr.sliceBounds, Instr.sliceBound, asIntOf, Sem.run_bind, run_underlying hu, Result.andThen, Sem.run_pure, if_pos h0, run_size h2 h3, AV.conc, Option.getD_some]
  by_cases hsp : (ν n).1.spot.isSome = true
  · simp [hsp]
  · by_cases hc : cp = v.toNat
    · simp [hc]
    · simp [hc, hsp, Nat.add_mul, add_add]
theorem evArgs_spec (hR : Rel base w0 N ν st a w) : ∀ (l : List Operand) (vs : List AV), evArgs st l = some vs → (∀ v ∈ vs, v.ok (bd st.heap)) ∧ l.map a.eval = vs.map (·.conc ν)
  | [], vs, h => by
    simp only [evArgs, Option.some.injEq] at h
    subst h
    exact ⟨fun v hv => (by cases hv), rfl⟩
  | x :: xs, vs, h => by
    unfold evArgs at h
    split at h
    · cases h
    · rename_i vs' hvs hne
      injection h with h
      subst h
      obtain ⟨h1, h2⟩ := evArgs_spec hR xs vs' hvs
      obtain ⟨h3, h4⟩ := hR.ev_some rfl (by rintro h; exact hne h)
      refine ⟨fun u hu => ?_, ?_⟩
      · rcases List.mem_cons.1 hu with rfl | hu
        · exact h3
        · exact h1 u hu
      · simp only [List.map_cons, h4, h2]
    · cases h
end
end Go.AbsK

namespace Go.AbsK
open Go.RowKit

def updE (ν : Env) (n : Nm) (x : Addr × Nat) : Env := fun m => if m = n then x else ν m
theorem updE_same (ν : Env) (n : Nm) (x : Addr × Nat) : updE ν n x n = x := by simp [updE]
theorem updE_other (ν : Env) (n m : Nm) (x : Addr × Nat) (h : m ≠ n) : updE ν n x m = ν m := by simp [updE, h]
def none1 : Nm → Option Blk := fun _ => none
theorem updH_none (h : Nm → Option Blk) (l : List (Nm × Blk)) (n : Nm) (hn : updH none1 l n = none) : updH h l n = h n := by
  induction l with
  | nil => rfl
  | cons p l ih =>
    obtain ⟨m, b⟩ := p
    replace hn : (if n = m then some b else updH none1 l n) = none := hn
    show (if n = m then some b else updH h l n) = h n
    split at hn
    · cases hn
    · rename_i hne
      rw [if_neg hne]
      exact ih hn
theorem updH_some (h : Nm → Option Blk) (l : List (Nm × Blk)) (n : Nm) {blk : Blk} (hn : updH none1 l n = some blk) : updH h l n = some blk := by
  induction l with
  | nil => cases hn
  | cons p l ih =>
    obtain ⟨m, b⟩ := p
    replace hn : (if n = m then some b else updH none1 l n) = some blk := hn
    show (if n = m then some b else updH h l n) = some blk
    split at hn
    · rename_i he
      rw [if_pos he]; exact hn
    · rename_i hne
      rw [if_neg hne]
      exact ih hn
section
variable {P : Program} {tab : Tab} {EQ : TypeId → Option Shp} {C : Orc} {base : Nat} {w0 : Anch} {N : Nat} {ν : Env} {st : St} {a : Act} {w : World} {o : Oper} {e : Eff} {h : Nm → Option Blk} {gen : Nat} {D : Nm → Prop} {n : Nm} {blk : Blk}
/-- A block that is there stays there where the old blocks stay. -/
theorem BlkRel.grow {w' : World} {ν' : Env} {D D' : Nm → Prop} {n : Nm} {blk : Blk} (hb : BlkRel base w ν D n blk) (hg : ∀ k, k < w.heap.size → k = (ν n).1.block → (blk.own = false → k < base) → w'.heap[k]? = w.heap[k]?) (hn : ν' n = ν n) (hν : ∀ m, D m → ν' m = ν m) (hD : ∀ m, D m → D' m) : BlkRel base w' ν' D' n blk := by
  refine ⟨hb.width, fun row r j c hr hc => ?_, fun hs => by rw [hn] at hs ⊢; exact hb.nil hs, fun ho hs => ?_⟩
  · obtain ⟨h1, h2, h3⟩ := hb.read row r j c hr hc
    refine ⟨Cell.ok_mono hD h1, ?_, by rw [hn]; exact h3⟩
    rw [hn, Cell.conc_eq hν h1, ← h2]
    have hlt := World.block_lt_of_cell? w _ h2
    have hbl : ((ν n).1.add (row * blk.w + j)).block = (ν n).1.block := by unfold Addr.add; split <;> rfl
    exact World.cell?_of_block (hg _ hlt hbl (by rw [hbl]; exact h3))
  · rw [hn] at hs ⊢
    obtain ⟨h1, h3, h4, h5, h5b, arr, h6, h7⟩ := hb.own ho hs
    refine ⟨h1, h3, h4, h5, h5b, arr, ?_, h7⟩
    have hlt : (ν n).1.block < w.heap.size := by
      rcases Nat.lt_or_ge (ν n).1.block w.heap.size with hh | hh
      · exact hh
      · rw [Array.getElem?_eq_none hh] at h6; cases h6
    rw [hg _ hlt rfl (fun he => by rw [ho] at he; cases he)]
    exact h6
theorem own_lt (hb : BlkRel base w ν D n blk) (ho : blk.own = true) (hs : (ν n).1.spot = none) : (ν n).1.block < w.heap.size := by
  obtain ⟨h1, h3, h4, h5, h5b, arr, h6, h7⟩ := hb.own ho hs
  rcases Nat.lt_or_ge (ν n).1.block w.heap.size with hh | hh
  · exact hh
  · rw [Array.getElem?_eq_none hh] at h6; cases h6
/-- New named blocks, all of them made just now. -/
theorem HRel.grow (hh : HRel base w0 ν h gen w) {w' : World} (hb : Below w.heap.size w w') {nb : List (Nm × Blk)} {ν' : Env} (hν : ∀ n, bd h n → ν' n = ν n)
    (hfr : ∀ n blk, updH none1 nb n = some blk → h n = none ∧ n.2 = gen)
    (hnb : ∀ n blk, updH none1 nb n = some blk → BlkRel base w' ν' (bd (updH h nb)) n blk ∧ (blk.own = true → (ν' n).1.spot = none → w.heap.size ≤ (ν' n).1.block))
    (hinj : ∀ n n' blk blk', updH none1 nb n = some blk → updH none1 nb n' = some blk' → blk.own = true → blk'.own = true → (ν' n).1.spot = none → (ν' n').1.spot = none → n ≠ n' → (ν' n).1.block ≠ (ν' n').1.block) :
    HRel base w0 ν' (updH h nb) gen w' := by
  have hcase : ∀ n blk, updH h nb n = some blk → updH none1 nb n = some blk ∨ (updH none1 nb n = none ∧ h n = some blk) := by
    intro n blk hn
    cases hq : updH none1 nb n with
    | none => exact .inr ⟨rfl, by rw [← updH_none h nb n hq]; exact hn⟩
    | some b' => rw [updH_some h nb n hq] at hn; exact .inl hn
  refine ⟨fun n blk hn => ?_, fun n n' blk blk' hn hn' ho ho' hs hs' hne => ?_, ?_, fun n hn => ⟨(hh.anc n hn).1, bd_updH _ _ _ (hh.anc n hn).2.1, (hν n (hh.anc n hn).2.1).trans (hh.anc n hn).2.2⟩, Nat.le_trans hh.base_le hb.size, fun d g hg => ?_, hh.oth.trans (keeps_of_below hb)⟩
  · rcases hcase n blk hn with hq | ⟨hq, hq'⟩
    · exact (hnb n blk hq).1
    · exact (hh.heap n blk hq').grow (fun k hk _ _ => hb.block k hk) (hν n (by unfold bd; rw [hq']; rfl)) hν (fun m hm => bd_updH _ _ _ hm)
  · rcases hcase n blk hn with hq | ⟨hq, hq1⟩ <;> rcases hcase n' blk' hn' with hq' | ⟨hq', hq1'⟩
    · exact hinj n n' blk blk' hq hq' ho ho' hs hs' hne
    · have h1 := (hnb n blk hq).2 ho hs
      have hn' := hν n' (by unfold bd; rw [hq1']; rfl)
      rw [hn'] at hs' ⊢
      have h2 := own_lt (hh.heap n' blk' hq1') ho' hs'
      omega
    · have h1 := (hnb n' blk' hq').2 ho' hs'
      have hn := hν n (by unfold bd; rw [hq1]; rfl)
      rw [hn] at hs ⊢
      have h2 := own_lt (hh.heap n blk hq1) ho hs
      omega
    · have hn := hν n (by unfold bd; rw [hq1]; rfl)
      have hn' := hν n' (by unfold bd; rw [hq1']; rfl)
      rw [hn] at hs ⊢
      rw [hn'] at hs' ⊢
      exact hh.inj n n' blk blk' hq1 hq1' ho ho' hs hs' hne
  · exact hh.below.trans ⟨hb.os, hb.tape, hb.output, hb.size, fun k hk => hb.block k (Nat.lt_of_lt_of_le hk hh.base_le)⟩
  · cases hq : updH none1 nb (d, g) with
    | none => rw [updH_none h nb _ hq]; exact hh.fresh d g hg
    | some b' => have := (hfr _ _ hq).2; simp at this; omega
theorem HRel.drew (hh : HRel base w0 ν h gen w) : HRel base w0 ν h gen w.drew :=
  ⟨fun n blk hn => (hh.heap n blk hn).grow (fun _ _ _ _ => rfl) rfl (fun _ _ => rfl) (fun _ hm => hm), hh.inj, hh.below.drew, hh.anc, hh.base_le, hh.fresh, ⟨hh.oth.size, hh.oth.same⟩⟩
theorem Rel.drew (hR : Rel base w0 N ν st a w) : Rel base w0 N ν st a w.drew := ⟨hR.defers, hR.size, hR.slots, hR.hr.drew, hR.ank⟩
theorem Rel.bump (hR : Rel base w0 N ν st a w) : Rel base w0 N ν st.bump a w :=
  ⟨hR.defers, hR.size, hR.slots, ⟨hR.hr.heap, hR.hr.inj, hR.hr.below, hR.hr.anc, hR.hr.base_le, fun d g hg => hR.hr.fresh d g (by have : st.gen + 1 < g := hg; omega), hR.hr.oth⟩, hR.ank⟩
/-- A new block of the call's own. -/
theorem HRel.alloc (hh : HRel base w0 ν h gen w) {n : Nm} (hn : h n = none) (hg : n.2 = gen) {blk : Blk} {cells : Array Value} {cap : Nat} (hown : blk.own = true) (hw : ∀ r ∈ blk.rows, r.length = blk.w)
    (hlen : blk.rows.length ≤ cap) (hcap : ∀ c, blk.cap = some c → cap = c) (hsize : cells.size = cap * blk.w) (hmax : cap ≤ maxLen)
    (hcells : ∀ row r j c, blk.rows[row]? = some r → r[j]? = some c → c.ok (bd h) ∧ cells[row * blk.w + j]? = some (c.conc ν)) :
    HRel base w0 (updE ν n (⟨w.heap.size, 0, none⟩, cap)) (updH h [(n, blk)]) gen (w.alloc (.cells cells blk.ty)) := by
  have hν : ∀ m, bd h m → updE ν n (⟨w.heap.size, 0, none⟩, cap) m = ν m := by
    intro m hm
    refine updE_other _ _ _ _ (fun e => ?_)
    subst e
    unfold bd at hm
    rw [hn] at hm
    cases hm
  have hone : ∀ m b, updH none1 [(n, blk)] m = some b → m = n ∧ b = blk := by
    intro m b hm
    replace hm : (if m = n then some blk else none) = some b := hm
    split at hm
    · rename_i he; injection hm with hm; exact ⟨he, hm.symm⟩
    · cases hm
  have hheap : (w.alloc (.cells cells blk.ty)).heap[w.heap.size]? = some (.cells cells blk.ty (0, 0)) := by
    show (w.heap.push (.cells cells blk.ty (0, 0)))[w.heap.size]? = _
    rw [Array.getElem?_push, if_pos rfl]
  refine hh.grow ((Below.refl _ _).alloc (Nat.le_refl _) _) hν (fun m b hm => ?_) (fun m b hm => ?_) (fun m m' b b' hm hm' _ _ _ _ hne => ?_)
  · obtain ⟨rfl, rfl⟩ := hone m b hm; exact ⟨hn, hg⟩
  · obtain ⟨rfl, rfl⟩ := hone m b hm
    refine ⟨⟨hw, fun row r j c hr hc => ?_, fun hs => absurd (by rw [updE_same]) hs, fun _ _ => ?_⟩, fun _ _ => ?_⟩
    · obtain ⟨h1, h2⟩ := hcells row r j c hr hc
      refine ⟨Cell.ok_mono (fun k hk => bd_updH _ _ _ hk) h1, ?_, fun he => by rw [hown] at he; cases he⟩
      rw [Cell.conc_eq hν h1, updE_same, ← h2]
      have : (⟨w.heap.size, 0, none⟩ : Addr).add (row * b.w + j) = ⟨w.heap.size, row * b.w + j, none⟩ := by unfold Addr.add; split <;> simp_all
      rw [this]
      unfold World.cell?
      rw [hheap]
      rfl
    · rw [updE_same]
      exact ⟨rfl, hh.base_le, hlen, hmax, hcap, cells, hheap, hsize⟩
    · rw [updE_same]; exact Nat.le_refl _
  · obtain ⟨rfl, rfl⟩ := hone m b hm
    obtain ⟨rfl, rfl⟩ := hone m' b' hm'
    exact absurd rfl hne
/-- One row's cells, as a new block. -/
theorem one_row {cs : List Cell} {row j : Nat} {r : List Cell} {c : Cell} (hr : [cs][row]? = some r) (hc : r[j]? = some c) (hok : ∀ x ∈ cs, x.ok D) : c.ok D ∧ (concs ν cs)[row * cs.length + j]? = some (c.conc ν) := by
  cases row with
  | zero =>
    simp only [List.getElem?_cons_zero, Option.some.injEq] at hr
    subst hr
    refine ⟨hok c (List.mem_of_getElem? hc), ?_⟩
    rw [Nat.zero_mul, Nat.zero_add, concs_get, hc]; rfl
  | succ k => simp at hr
theorem newA_spec {d : Option Tmp} {mk : Nm → AV × Blk} (hq : newA st d mk = some e) : ∃ s, d = some s ∧ st.heap (s, st.gen) = none ∧ e = ⟨(mk (s, st.gen)).1, [((s, st.gen), (mk (s, st.gen)).2)], [(s, st.gen)]⟩ := by
  unfold newA at hq
  split at hq
  · cases hq
  · rename_i d
    split at hq
    · rename_i hn
      injection hq with hq
      exact ⟨d, rfl, by simpa using hn, hq.symm⟩
    · cases hq
/-- What lays a new block of given cells and yields a value that names it. -/
theorem out_new (hR : Rel base w0 N ν st a w) (hd : ∀ s, o.dst = some s → s < N) {mk : Nm → AV × Blk} (hq : newA st o.dst mk = some e) {cells : Array Value} {cap : Nat} {v : Value}
    (hrun : (execOp a.eval o).run P w = .ok (.value v) (w.alloc (.cells cells (mk (0, 0)).2.ty)))
    (hown : ∀ n, (mk n).2.own = true) (hty : ∀ n, (mk n).2.ty = (mk (0, 0)).2.ty) (hw : ∀ n, ∀ r ∈ (mk n).2.rows, r.length = (mk n).2.w)
    (hlen : ∀ n, (mk n).2.rows.length ≤ cap) (hcap : ∀ n c, (mk n).2.cap = some c → cap = c) (hsize : ∀ n, cells.size = cap * (mk n).2.w) (hmax : cap ≤ maxLen)
    (hcells : ∀ n row r j c, (mk n).2.rows[row]? = some r → r[j]? = some c → c.ok (bd st.heap) ∧ cells[row * (mk n).2.w + j]? = some (c.conc ν))
    (hv : ∀ n, (mk n).1.ok (fun m => m = n ∨ bd st.heap m) ∧ ∀ ν', ν' n = (⟨w.heap.size, 0, none⟩, cap) → v = (mk n).1.conc ν') : Out P base w0 N st a w o e := by
  obtain ⟨s, hs, hn, rfl⟩ := newA_spec hq
  have hA := hR.hr.alloc (cap := cap) hn rfl (hown (s, st.gen)) (hw _) (hlen _) (hcap _) (hsize _) hmax (hcells (s, st.gen))
  rw [hty] at hA
  refine ⟨v, _, updE ν (s, st.gen) (⟨w.heap.size, 0, none⟩, cap), .inl hrun, ?_⟩
  refine hR.value hd (fun m hm => updE_other _ _ _ _ (fun he => ?_)) ?_ hA
  · subst he; unfold bd at hm; rw [hn] at hm; cases hm
  · obtain ⟨h1, h2⟩ := hv (s, st.gen)
    refine .inr ⟨AV.ok_mono (fun m hm => ?_) h1, h2 _ (updE_same _ _ _)⟩
    rcases hm with rfl | hm
    · show (updH st.heap [((s, st.gen), _)] (s, st.gen)).isSome = true
      simp [updH]
    · exact bd_updH _ _ _ hm
theorem zero_spec (hT : TabOK P tab) {t : TypeId} {ti : TI} (hs : tab t = some ti) (w : World) : ∃ z, (zeroValue t).run P w = .ok z w ∧ ∀ ν : Env, z.cells = concs ν ti.zero := by
  obtain ⟨inf, h1, h2, h3, z, h4, h5, h6⟩ := (hT t ti hs).info
  refine ⟨z, ?_, fun ν => ?_⟩
  · unfold zeroValue
    simp only [Sem.run_bind, run_typeInfo w h1, Result.andThen, h4]
    rfl
  · rw [h5]
    exact (concs_eq (D := fun _ => False) (fun n hn => hn.elim) (hT t ti hs).plain)
theorem run_newVar (t : TypeId) (v : Value) (w : World) : (newVar t v).run P w = .ok ⟨w.heap.size, 0, none⟩ (w.alloc (.cells v.cells t)) := rfl
theorem plain_ok {D : Nm → Prop} {l : List Cell} (h : ∀ c ∈ l, Cell.ok (fun _ => False) c) : ∀ c ∈ l, c.ok D := fun c hc => Cell.ok_mono (fun _ h => h.elim) (h c hc)
theorem maxLen_one : 1 ≤ maxLen := by unfold maxLen; omega
theorem op_alloc (hR : Rel base w0 N ν st a w) (hd : ∀ s, o.dst = some s → s < N) (hT : TabOK P tab) {t : TypeId} (ho : o.op = .alloc t) {ti : TI} (hs : tab t = some ti)
    (he : newA st o.dst (fun n => (.c (.ptr n 0 ti.sz 0), ⟨[ti.zero], ti.sz, t, true, some 1⟩)) = some e) : Out P base w0 N st a w o e := by
  obtain ⟨z, h1, h2⟩ := zero_spec hT hs w
  have hl := (hT t ti hs).len
  refine out_new hR hd he (cells := z.cells) (cap := 1) (v := .pointer (some ⟨w.heap.size, 0, none⟩)) ?_ (fun _ => rfl) (fun _ => rfl) (fun n r hr => ?_) (fun _ => Nat.le_refl 1) (fun n c hc => ?_) (fun n => ?_) maxLen_one (fun n row r j c hr hc => ?_) (fun n => ⟨.inl rfl, fun ν' hν => ?_⟩)
  · simp only [execOp, ho, Instr.alloc, Sem.run_bind, h1, Result.andThen, run_newVar, Sem.run_pure]
  · simp only [List.mem_singleton] at hr; subst hr; exact hl
  · injection hc
  · rw [h2 ν, concs_size, Nat.one_mul]; exact hl
  · rw [h2 ν]
    have := one_row (ν := ν) (D := bd st.heap) hr hc (plain_ok (hT t ti hs).plain)
    rw [hl] at this
    exact this
  · show _ = Value.pointer (some ((ν' n).1.add (0 * ti.sz + 0)))
    rw [hν, Nat.zero_mul]; rfl
theorem cells_spec (hR : Rel base w0 N ν st a w) {x : Operand} {cs : List Cell} (h : (st.ev x).cells = some cs) : (∀ c ∈ cs, c.ok (bd st.heap)) ∧ (a.eval x).cells = concs ν cs ∧ (∀ c, st.ev x = .c c → a.eval x = c.conc ν) := by
  unfold AV.cells at h
  split at h
  · rename_i c hc
    injection h with h; subst h
    obtain ⟨h1, h2⟩ := hR.ev_c hc
    refine ⟨fun c' hc' => by simp only [List.mem_singleton] at hc'; subst hc'; exact h1, ?_, fun c' hc' => by rw [hc] at hc'; injection hc' with hc'; subst hc'; exact h2⟩
    rw [h2]
    cases c <;> rfl
  · rename_i l hl
    injection h with h; subst h
    obtain ⟨h1, h2⟩ := hR.ev_agg hl
    exact ⟨h1, by rw [h2]; rfl, fun c hc => by rw [hl] at hc; cases hc⟩
  · cases h
theorem op_box (hR : Rel base w0 N ν st a w) (hd : ∀ s, o.dst = some s → s < N) {t : TypeId} {x : Operand} (ho : o.op = .box t x) {cs : List Cell} (hx : (st.ev x).cells = some cs)
    (he : newA st o.dst (fun n => (.c (.ptr n 0 cs.length 0), ⟨[cs], cs.length, t, true, some 1⟩)) = some e) : Out P base w0 N st a w o e := by
  obtain ⟨h1, h2, -⟩ := cells_spec hR hx
  refine out_new hR hd he (cells := (a.eval x).cells) (cap := 1) (v := .pointer (some ⟨w.heap.size, 0, none⟩)) ?_ (fun _ => rfl) (fun _ => rfl) (fun n r hr => ?_) (fun _ => Nat.le_refl 1) (fun n c hc => ?_) (fun n => ?_) maxLen_one (fun n row r j c hr hc => ?_) (fun n => ⟨.inl rfl, fun ν' hν => ?_⟩)
  · simp only [execOp, ho, Instr.box, Sem.run_bind, Result.andThen, run_newVar, Sem.run_pure]
  · simp only [List.mem_singleton] at hr; subst hr; rfl
  · injection hc
  · rw [h2, concs_size, Nat.one_mul]
  · rw [h2]; exact one_row hr hc h1
  · show _ = Value.pointer (some ((ν' n).1.add (0 * cs.length + 0)))
    rw [hν, Nat.zero_mul]; rfl
theorem concs_list (ν : Env) (l : List Cell) : (concs ν l).toList = l.map (·.conc ν) := by simp [concs]
theorem load_run (hT : TabOK P tab) (hh : HRel base w0 ν h gen w) {t : TypeId} {ti : TI} (hs : tab t = some ti) {n : Nm} {blk : Blk} (hn : h n = some blk) {row col : Nat} {r : List Cell} (hr : blk.rows[row]? = some r) {v : AV} (hv : cut ti.d.isAgg r col ti.sz = some v) :
    v.ok (bd h) ∧ (loadVar t ((ν n).1.add (row * blk.w + col))).run P w = .ok (v.conc ν) w := by
  have hb := hh.heap n blk hn
  refine ⟨cut_ok hv (fun c hc => ?_), ?_⟩
  · obtain ⟨j, hj⟩ := List.getElem?_of_mem hc
    exact (hb.read row r j c hr hj).1
  obtain ⟨inf, h1, h2, -⟩ := (hT t ti hs).info
  unfold loadVar
  simp only [Sem.run_bind, ti_isAgg (hT t ti hs), Result.andThen]
  unfold cut at hv
  cases hag : ti.d.isAgg with
  | true =>
    rw [hag] at hv
    simp only [if_true] at hv ⊢
    split at hv
    · rename_i hlen
      injection hv with hv
      subst hv
      have hl : (((r.drop col).take ti.sz).map (·.conc ν)).length = ti.sz := by simp; omega
      have := run_loadCells_list (P := P) (w := w) ((ν n).1.add (row * blk.w + col)) (((r.drop col).take ti.sz).map (·.conc ν)) (fun j u hu => ?_)
      · rw [hl] at this
        simp only [Sem.run_bind, run_size h1 h2, Result.andThen, this, Sem.run_pure, AV.conc, concs]
      · rw [List.getElem?_map] at hu
        obtain ⟨c, hc, rfl⟩ := Option.map_eq_some_iff.1 hu
        rw [List.getElem?_take] at hc
        split at hc
        · rw [List.getElem?_drop] at hc
          rw [add_add, Nat.add_assoc]
          exact (hb.read row r _ c hr hc).2.1
        · cases hc
    · cases hv
  | false =>
    rw [hag] at hv
    simp only [Bool.false_eq_true, if_false] at hv ⊢
    split at hv
    · rename_i c hc
      injection hv with hv
      subst hv
      have := (hb.read row r _ c hr hc).2.1
      simp only [load, Sem.run, this, AV.conc]
    · cases hv
theorem op_load (hR : Rel base w0 N ν st a w) (hd : ∀ s, o.dst = some s → s < N) (hT : TabOK P tab) {t : TypeId} {x : Operand} (ho : o.op = .load t x) {ti : TI} (hs : tab t = some ti) {n : Nm} {row col : Nat} {blk : Blk} (hx : st.ev x = .c (.ptr n row blk.w col)) (hn : st.heap n = some blk)
    {r : List Cell} (hr : blk.rows[row]? = some r) {v : AV} (hv : cut ti.d.isAgg r col ti.sz = some v) (he : e = ⟨v, [], [n]⟩) : Out P base w0 N st a w o e := by
  obtain ⟨-, hx'⟩ := hR.ev_c hx
  obtain ⟨h1, h2⟩ := load_run hT hR.hr hs hn hr hv
  refine out_pure hR hd (v := v.conc ν) (x := v) ?_ (.inr ⟨h1, rfl⟩) he
  simp only [execOp, ho, hx', Cell.conc, Instr.loadAt, Instr.sureAddr, Sem.run_bind, Sem.run_pure, Result.andThen, h2]
theorem one_cell (ν : Env) (c : Cell) : (c.conc ν).oneCell' = true := by cases c <;> rfl
theorem over_length {r cs : List Cell} {col : Nat} (h : col + cs.length ≤ r.length) : (over r col cs).length = r.length := by
  unfold over
  simp only [List.length_append, List.length_take, List.length_drop]
  omega
theorem over_get {r cs : List Cell} {col : Nat} (h : col + cs.length ≤ r.length) (j : Nat) : (over r col cs)[j]? = if col ≤ j ∧ j < col + cs.length then cs[j - col]? else r[j]? := by
  unfold over
  rw [List.append_assoc, List.getElem?_append, List.length_take, Nat.min_eq_left (by omega)]
  by_cases h1 : j < col
  · rw [if_pos h1, if_neg (by omega), List.getElem?_take, if_pos h1]
  · rw [if_neg h1, List.getElem?_append]
    by_cases h2 : j - col < cs.length
    · rw [if_pos h2, if_pos (by omega)]
    · rw [if_neg h2, if_neg (by omega), List.getElem?_drop]
      congr 1
      omega
/-- A row's cells are written: the block is the same one, the row has the new cells. -/
theorem HRel.store (hh : HRel base w0 ν h gen w) {n : Nm} {blk : Blk} (hn : h n = some blk) (hown : blk.own = true) {row col : Nat} {r cs : List Cell} (hr : blk.rows[row]? = some r) (hlen : col + cs.length ≤ r.length) (hok : ∀ c ∈ cs, c.ok (bd h)) :
    ∃ w', (storeCells ((ν n).1.add (row * blk.w + col)) (concs ν cs).toList).run P w = .ok () w' ∧ HRel base w0 ν (updH h [(n, { blk with rows := blk.rows.set row (over r col cs) })]) gen w' := by
  have hb := hh.heap n blk hn
  have h2 : (ν n).1.spot = none := by
    cases hq : (ν n).1.spot with
    | none => rfl
    | some q => rw [(hb.nil (by rw [hq]; simp)).1] at hr; simp at hr
  obtain ⟨h1, h3, h4, h5, h5b, arr, h6, h7⟩ := hb.own hown h2
  have hrw : r.length = blk.w := hb.width r (List.mem_of_getElem? hr)
  have hrow : row < blk.rows.length := (List.getElem?_eq_some_iff.1 hr).1
  have hspace : row * blk.w + blk.w ≤ arr.size := by
    rw [h7]
    have : (row + 1) * blk.w ≤ (ν n).2 * blk.w := Nat.mul_le_mul_right _ (by omega)
    rw [Nat.add_mul, Nat.one_mul] at this
    exact this
  have haddr : ∀ k, (ν n).1.add k = ⟨(ν n).1.block, k, none⟩ := by
    intro k
    unfold Addr.add
    split
    · rename_i hk
      cases hq : (ν n).1 with
      | mk b o s => rw [hq] at h1 h2; simp only at h1 h2; subst h1 h2 hk; rfl
    · rw [h1, Nat.zero_add]
  generalize hcur : ((arr.toList.take (row * blk.w + col + 0) ++ (concs ν cs).toList ++ arr.toList.drop (row * blk.w + col + 0 + (concs ν cs).toList.length)).toArray : Array Value) = cur
  refine ⟨w.setRow (ν n).1.block cur, ?_, ?_⟩
  · rw [haddr, ← hcur]
    exact run_storeCells_at (P := P) (ν n).1.block (row * blk.w + col) blk.ty (concs ν cs).toList 0 arr w h6 (by rw [concs_list, List.length_map]; omega) (fun u hu => by
      rw [concs_list] at hu
      obtain ⟨c, -, rfl⟩ := List.mem_map.1 hu
      exact one_cell ν c)
  · have hcl : (concs ν cs).toList.length = cs.length := by rw [concs_list, List.length_map]
    have hcursize : cur.size = arr.size := by
      subst hcur
      simp only [List.size_toArray, List.length_append, List.length_take, List.length_drop, hcl, Array.length_toList]
      omega
    have hcurget : ∀ k, cur[k]? = if row * blk.w + col ≤ k ∧ k < row * blk.w + col + cs.length then (concs ν cs)[k - (row * blk.w + col)]? else arr[k]? := by
      intro k
      subst hcur
      rw [List.getElem?_toArray, List.append_assoc, List.getElem?_append, List.length_take, Array.length_toList, Nat.min_eq_left (by omega)]
      by_cases c1 : k < row * blk.w + col + 0
      · rw [if_pos c1, if_neg (by omega), List.getElem?_take, if_pos c1, Array.getElem?_toList]
      · rw [if_neg c1, List.getElem?_append, hcl]
        by_cases c2 : k - (row * blk.w + col + 0) < cs.length
        · rw [if_pos c2, if_pos (by omega), Array.getElem?_toList]; rfl
        · rw [if_neg c2, if_neg (by omega), List.getElem?_drop, Array.getElem?_toList]
          congr 1
          omega
    have hnew : (w.setRow (ν n).1.block cur).heap[(ν n).1.block]? = some (.cells cur blk.ty (0, 0)) := setRow_heap w _ arr cur blk.ty (0, 0) h6
    have hoth : ∀ k, k ≠ (ν n).1.block → (w.setRow (ν n).1.block cur).heap[k]? = w.heap[k]? := fun k hk => setRow_other w _ k cur hk
    have hD : ∀ m, bd h m → bd (updH h [(n, { blk with rows := blk.rows.set row (over r col cs) })]) m := fun m hm => bd_updH _ _ _ hm
    refine ⟨fun m b hm => ?_, fun m m' b b' hm hm' ho ho' hs hs' hne => ?_, ?_, fun m hm => ⟨(hh.anc m hm).1, hD m (hh.anc m hm).2.1, (hh.anc m hm).2.2⟩, ?_, fun d g hg => ?_, hh.oth.trans ⟨Nat.le_of_eq (by simp [World.setRow]), fun k o hk ho => (hoth k (fun e => by subst e; rw [h6] at hk; injection hk with hk; subst hk; cases ho)).trans hk⟩⟩
    · replace hm : (if m = n then some { blk with rows := blk.rows.set row (over r col cs) } else h m) = some b := hm
      split at hm
      · rename_i he
        subst he
        injection hm with hm
        subst hm
        refine ⟨fun r' hr' => ?_, fun row' r' j c hr' hc => ?_, fun hs => absurd h2 hs, fun _ _ => ?_⟩
        · rcases List.mem_or_eq_of_mem_set hr' with hr' | rfl
          · exact hb.width r' hr'
          · rw [over_length hlen]; exact hrw
        · show c.ok _ ∧ (w.setRow (ν m).1.block cur).cell? ((ν m).1.add (row' * blk.w + j)) = some (c.conc ν) ∧ (blk.own = false → _)
          have hcell : ∀ k, (w.setRow (ν m).1.block cur).cell? ⟨(ν m).1.block, k, none⟩ = cur[k]? := by
            intro k
            unfold World.cell?
            rw [hnew]
            rfl
          have holdc : ∀ k, w.cell? ⟨(ν m).1.block, k, none⟩ = arr[k]? := by
            intro k
            unfold World.cell?
            rw [h6]
            rfl
          rw [haddr, hcell, hcurget]
          have hr' : (blk.rows.set row (over r col cs))[row']? = some r' := hr'
          by_cases hrr : row' = row
          · subst hrr
            rw [List.getElem?_set_self hrow] at hr'
            injection hr' with hr'
            subst hr'
            rw [over_get hlen] at hc
            by_cases hin : col ≤ j ∧ j < col + cs.length
            · rw [if_pos hin] at hc
              rw [if_pos (by omega)]
              refine ⟨Cell.ok_mono hD (hok c (List.mem_of_getElem? hc)), ?_, fun he => by rw [hown] at he; cases he⟩
              rw [concs_get, show row' * blk.w + j - (row' * blk.w + col) = j - col by omega, hc]
              rfl
            · rw [if_neg hin] at hc
              rw [if_neg (by omega)]
              obtain ⟨g1, g2, g3⟩ := hb.read row' r j c hr hc
              rw [haddr, holdc] at g2
              exact ⟨Cell.ok_mono hD g1, g2, g3⟩
          · rw [List.getElem?_set_ne (Ne.symm hrr)] at hr'
            obtain ⟨g1, g2, g3⟩ := hb.read row' r' j c hr' hc
            rw [haddr, holdc] at g2
            have hjl : j < blk.w := by
              have := (List.getElem?_eq_some_iff.1 hc).1
              rw [hb.width r' (List.mem_of_getElem? hr')] at this
              exact this
            refine ⟨Cell.ok_mono hD g1, ?_, g3⟩
            rw [if_neg ?_]
            · exact g2
            · rintro ⟨q1, q2⟩
              rcases Nat.lt_or_gt_of_ne hrr with hlt | hgt
              · have : (row' + 1) * blk.w ≤ row * blk.w := Nat.mul_le_mul_right _ hlt
                rw [Nat.add_mul, Nat.one_mul] at this
                omega
              · have : (row + 1) * blk.w ≤ row' * blk.w := Nat.mul_le_mul_right _ hgt
                rw [Nat.add_mul, Nat.one_mul] at this
                omega
        · exact ⟨h1, h3, by simpa using h4, h5, h5b, cur, hnew, by rw [hcursize]; exact h7⟩
      · rename_i hne
        by_cases hsm : (ν m).1.spot = none
        · refine (hh.heap m b hm).grow (fun k hk hkb hro => hoth k (fun e => ?_)) rfl (fun _ _ => rfl) hD
          subst hkb
          cases hbo : b.own with
          | true => exact hh.inj m n b blk hm hn hbo hown hsm h2 hne e
          | false => have := hro hbo; omega
        · have hrows := (hh.heap m b hm).nil hsm
          exact ⟨(hh.heap m b hm).width, fun row r j c hr hc => (by rw [hrows.1] at hr; simp at hr), fun _ => hrows, fun _ hs => absurd hs hsm⟩
    · replace hm : (if m = n then some { blk with rows := blk.rows.set row (over r col cs) } else h m) = some b := hm
      replace hm' : (if m' = n then some { blk with rows := blk.rows.set row (over r col cs) } else h m') = some b' := hm'
      by_cases c1 : m = n
      · subst c1
        rw [if_neg (Ne.symm hne)] at hm'
        exact hh.inj m m' blk b' hn hm' hown ho' hs hs' hne
      · rw [if_neg c1] at hm
        by_cases c2 : m' = n
        · subst c2
          exact hh.inj m m' b blk hm hn ho hown hs hs' hne
        · rw [if_neg c2] at hm'
          exact hh.inj m m' b b' hm hm' ho ho' hs hs' hne
    · exact hh.below.trans ⟨rfl, rfl, rfl, by simp, fun k hk => hoth k (by omega)⟩
    · rw [size_setRow]; exact hh.base_le
    · show (if (d, g) = n then some { blk with rows := blk.rows.set row (over r col cs) } else h (d, g)) = none
      rw [if_neg (fun e => ?_)]
      · exact hh.fresh d g hg
      · subst e
        rw [hh.fresh d g hg] at hn
        cases hn
theorem op_store (hR : Rel base w0 N ν st a w) (hT : TabOK P tab) {t : TypeId} {x y : Operand} (ho : o.op = .store t x y) (hdst : o.dst = none) {ti : TI} (hs : tab t = some ti) {n : Nm} {row col : Nat} {blk : Blk} (hx : st.ev x = .c (.ptr n row blk.w col)) {cs : List Cell} (hy : (st.ev y).cells = some cs)
    (hn : st.heap n = some blk) (hown : blk.own = true) (hsz : cs.length = ti.sz) {r : List Cell} (hr : blk.rows[row]? = some r) (hlen : col + cs.length ≤ r.length) (he : e = ⟨.und, [(n, { blk with rows := blk.rows.set row (over r col cs) })], [n]⟩) : Out P base w0 N st a w o e := by
  obtain ⟨-, hx'⟩ := hR.ev_c hx
  obtain ⟨h1, h2, -⟩ := cells_spec hR hy
  obtain ⟨w', h3, h4⟩ := hR.hr.store (P := P) hn hown hr hlen h1
  obtain ⟨inf, h5, h6, -⟩ := (hT t ti hs).info
  subst he
  refine ⟨undef, w', ν, .inr ⟨hdst, ?_⟩, ?_⟩
  · have hsz' : ¬ (concs ν cs).size ≠ ti.sz := by rw [concs_size]; omega
    simp only [execOp, ho, hx', Cell.conc, Instr.storeAt, Instr.sureAddr, storeVar, Sem.run_bind, Sem.run_pure, Result.andThen, run_size h5 h6, h2, if_neg hsz', h3]
  · refine hR.value (e := ⟨.und, _, [n]⟩) (by rw [hdst]; intro s hs; cases hs) (fun _ _ => rfl) (.inl rfl) h4
end
end Go.AbsK

namespace Go.AbsK
open Go.RowKit

theorem fold_set (f : Nat) : ∀ (l : List Value) (s : Nat) (A : Array Value), ((l.zipIdx s).foldl (fun cs (p : Value × Nat) => cs.setIfInBounds (f + p.2) p.1) A).size = A.size ∧
    ∀ k : Nat, ((l.zipIdx s).foldl (fun cs (p : Value × Nat) => cs.setIfInBounds (f + p.2) p.1) A)[k]? = if f + s ≤ k ∧ k < f + s + l.length ∧ k < A.size then l[k - (f + s)]? else A[k]?
  | [], s, A => ⟨rfl, fun k => by
    rw [if_neg (by simp; omega)]; rfl⟩
  | x :: l, s, A => by
    obtain ⟨h1, h2⟩ := fold_set f l (s + 1) (A.setIfInBounds (f + s) x)
    rw [List.zipIdx_cons, List.foldl_cons]
    refine ⟨by rw [h1, Array.size_setIfInBounds], fun k => ?_⟩
    rw [h2, Array.size_setIfInBounds]
    by_cases c1 : f + (s + 1) ≤ k ∧ k < f + (s + 1) + l.length ∧ k < A.size
    · rw [if_pos c1, if_pos (by simp; omega), show k - (f + s) = (k - (f + (s + 1))) + 1 by omega, List.getElem?_cons_succ]
    · rw [if_neg c1]
      by_cases c2 : k = f + s
      · subst c2
        by_cases c3 : f + s < A.size
        · rw [Array.getElem?_setIfInBounds_self, if_pos c3, if_pos (by simp; omega), Nat.sub_self]; rfl
        · rw [Array.getElem?_setIfInBounds_self, if_neg c3, if_neg (by omega), Array.getElem?_eq_none (by omega)]
      · rw [Array.getElem?_setIfInBounds_ne (Ne.symm c2), if_neg (by simp; omega)]
theorem fold_zip (f : Nat) (v A : Array Value) : v.zipIdx.foldl (fun cs (p : Value × Nat) => cs.setIfInBounds (f + p.2) p.1) A = (v.toList.zipIdx 0).foldl (fun cs (p : Value × Nat) => cs.setIfInBounds (f + p.2) p.1) A := by
  rw [← Array.foldl_toList, Array.toList_zipIdx]
/-- A part laid over an array of cells. -/
theorem fold_get (f : Nat) (v A : Array Value) (hf : f + v.size ≤ A.size) : (v.zipIdx.foldl (fun cs (p : Value × Nat) => cs.setIfInBounds (f + p.2) p.1) A).size = A.size ∧
    ∀ k : Nat, (v.zipIdx.foldl (fun cs (p : Value × Nat) => cs.setIfInBounds (f + p.2) p.1) A)[k]? = if f ≤ k ∧ k < f + v.size then v[k - f]? else A[k]? := by
  rw [fold_zip]
  obtain ⟨h1, h2⟩ := fold_set f v.toList 0 A
  refine ⟨h1, fun k => ?_⟩
  rw [h2]
  simp only [Nat.add_zero, Array.length_toList, Array.getElem?_toList]
  by_cases c : f ≤ k ∧ k < f + v.size
  · rw [if_pos c, if_pos (by omega)]
  · rw [if_neg c, if_neg (by omega)]
theorem fold_over (ν : Env) (f : Nat) (v : Array Value) {cells p : List Cell} (hv : v = concs ν p) (hf : f + p.length ≤ cells.length) : v.zipIdx.foldl (fun cs (p : Value × Nat) => cs.setIfInBounds (f + p.2) p.1) (concs ν cells) = concs ν (over cells f p) := by
  subst hv
  apply Array.ext_getElem?
  intro k
  rw [(fold_get f (concs ν p) (concs ν cells) (by rw [concs_size, concs_size]; exact hf)).2, concs_size, concs_get, concs_get, concs_get, over_get hf]
  split <;> rfl
section
variable {P : Program} {tab : Tab} {EQ : TypeId → Option Shp} {C : Orc} {base : Nat} {w0 : Anch} {N : Nat} {ν : Env} {st : St} {a : Act} {w : World} {o : Oper} {e : Eff} {h : Nm → Option Blk} {gen : Nat}
theorem fill_spec (ν : Env) (place : Nat → Option (Nat × Nat)) : ∀ (parts : List (Nat × Value)) (ps : List (Nat × List Cell)) (cells cs : List Cell), parts.length = ps.length → (∀ (j : Nat) (i : Nat) (v : Value), parts[j]? = some (i, v) → ∃ p, ps[j]? = some (i, p) ∧ v.cells = concs ν p) →
    fillA place cells ps = some cs → Instr.fill place (concs ν cells) parts = some (concs ν cs)
  | [], ps, cells, cs, hl, _, h => by
    have : ps = [] := List.eq_nil_of_length_eq_zero hl.symm
    subst this
    simp only [fillA, Option.some.injEq] at h
    subst h
    rfl
  | (i, v) :: parts, ps, cells, cs, hl, hp, h => by
    cases ps with
    | nil => cases hl
    | cons q ps =>
      obtain ⟨i', p⟩ := q
      obtain ⟨p', h1, h2⟩ := hp 0 i v rfl
      simp only [List.getElem?_cons_zero, Option.some.injEq, Prod.mk.injEq] at h1
      obtain ⟨rfl, rfl⟩ := h1
      unfold fillA at h
      unfold Instr.fill
      split at h
      · cases h
      · rename_i off size hpl
        rw [hpl]
        split at h
        · rename_i hsz
          split at h
          · rename_i hoff
            simp only [h2, concs_size]
            rw [if_neg (by simp; omega), fold_over ν off _ rfl hoff]
            exact fill_spec ν place parts ps _ cs (by simpa using hl) (fun j i v hj => hp (j + 1) i v hj) h
          · cases h
        · cases h
theorem partsOf_spec (hR : Rel base w0 N ν st a w) : ∀ (l : List (Nat × Operand)) (ps : List (Nat × List Cell)), partsOf st l = some ps → l.length = ps.length ∧ (∀ (j i : Nat) (p : List Cell), ps[j]? = some (i, p) → ∀ c ∈ p, Cell.ok (bd st.heap) c) ∧
    ∀ (j : Nat) (i : Nat) (v : Value), (l.map fun (x : Nat × Operand) => (x.1, a.eval x.2))[j]? = some (i, v) → ∃ p, ps[j]? = some (i, p) ∧ v.cells = concs ν p
  | [], ps, h => by
    simp only [partsOf, Option.some.injEq] at h
    subst h
    exact ⟨rfl, fun j i p hj => (by simp at hj), fun j i v hj => (by simp at hj)⟩
  | (i, x) :: l, ps, h => by
    unfold partsOf at h
    split at h
    · rename_i p ps' hx hps
      injection h with h
      subst h
      obtain ⟨h1, h2, h3⟩ := partsOf_spec hR l ps' hps
      obtain ⟨h4, h5, -⟩ := cells_spec hR hx
      refine ⟨by simp [h1], fun j i' p' hj => ?_, fun j i' v hj => ?_⟩
      · cases j with
        | zero =>
          simp only [List.getElem?_cons_zero, Option.some.injEq, Prod.mk.injEq] at hj
          obtain ⟨rfl, rfl⟩ := hj
          exact h4
        | succ j => exact h2 j i' p' hj
      · cases j with
        | zero =>
          simp only [List.map_cons, List.getElem?_cons_zero, Option.some.injEq, Prod.mk.injEq] at hj
          obtain ⟨rfl, rfl⟩ := hj
          exact ⟨p, rfl, h5⟩
        | succ j => exact h3 j i' v hj
    · cases h
theorem fillA_ok {D : Nm → Prop} (place : Nat → Option (Nat × Nat)) : ∀ (ps : List (Nat × List Cell)) (cells cs : List Cell), (∀ (j i : Nat) (p : List Cell), ps[j]? = some (i, p) → ∀ c ∈ p, Cell.ok D c) → (∀ c ∈ cells, Cell.ok D c) → fillA place cells ps = some cs → ∀ c ∈ cs, Cell.ok D c
  | [], cells, cs, _, h2, h => by
    simp only [fillA, Option.some.injEq] at h
    subst h
    exact h2
  | (i, p) :: ps, cells, cs, h1, h2, h => by
    unfold fillA at h
    split at h
    · cases h
    · split at h
      · split at h
        · refine fillA_ok place ps _ cs (fun j i p hj => h1 (j + 1) i p hj) (fun c hc => ?_) h
          unfold over at hc
          simp only [List.mem_append] at hc
          rcases hc with (hc | hc) | hc
          · exact h2 c (List.mem_of_mem_take hc)
          · exact h1 0 i p rfl c hc
          · exact h2 c (List.mem_of_mem_drop hc)
        · cases h
      · cases h
theorem run_places {fs : List (Nat × Nat × Bool)} (w : World) : ∀ (l : List Field) (k : Nat), l.length + k = fs.length → (∀ (j : Nat) (f : Field), l[j]? = some f → ∃ off sz ag, fs[j + k]? = some (off, sz, ag) ∧ f.offset = off ∧ (∃ inf, P.info? f.type = some inf ∧ inf.size = sz)) →
    (l.mapM fun f => do Pure.pure (f.offset, ← sizeOf f.type) : Sem (List (Nat × Nat))).run P w = .ok ((fs.drop k).map fun f => (f.1, f.2.1)) w
  | [], k, hl, _ => by
    rw [List.drop_of_length_le (by simp at hl; omega)]
    rfl
  | f :: l, k, hl, hf => by
    obtain ⟨off, sz, ag, h1, h2, inf, h3, h4⟩ := hf 0 f rfl
    rw [Nat.zero_add] at h1
    have ih := run_places (fs := fs) w l (k + 1) (by simp at hl; omega) (fun j f' hj => by
      obtain ⟨off, sz, ag, h1, h2⟩ := hf (j + 1) f' hj
      exact ⟨off, sz, ag, by rw [show j + (k + 1) = j + 1 + k by omega]; exact h1, h2⟩)
    rw [List.mapM_cons]
    simp only [Sem.run_bind, run_size h3 h4, Result.andThen, Sem.run_pure, ih, h2]
    have hlt := (List.getElem?_eq_some_iff.1 h1).1
    rw [List.drop_eq_getElem_cons hlt, List.map_cons, (List.getElem?_eq_some_iff.1 h1).2]
theorem op_build (hR : Rel base w0 N ν st a w) (hd : ∀ s, o.dst = some s → s < N) (hT : TabOK P tab) {t : TypeId} {parts : Array (Nat × Operand)} (ho : o.op = .build t parts) {ti : TI} (hs : tab t = some ti) {ps : List (Nat × List Cell)} (hp : partsOf st parts.toList = some ps)
    {place : Nat → Option (Nat × Nat)} (hpl : (∃ fs, ti.d = .struct fs ∧ place = fun i => (fs[i]?).map fun f => (f.1, f.2.1)) ∨ (∃ len esz ea, ti.d = .array len esz ea ∧ place = fun i => some (i * esz, esz))) {cs : List Cell} (hf : fillA place ti.zero ps = some cs) (he : e = ⟨.agg cs, [], []⟩) : Out P base w0 N st a w o e := by
  obtain ⟨h1, h2, h3⟩ := partsOf_spec hR _ _ hp
  obtain ⟨z, hz1, hz2⟩ := zero_spec hT hs w
  have hmap : (parts.map fun (x : Nat × Operand) => (x.1, a.eval x.2)).toList = parts.toList.map fun (x : Nat × Operand) => (x.1, a.eval x.2) := by simp
  have hok := fillA_ok place ps ti.zero cs h2 (plain_ok (D := bd st.heap) (hT t ti hs).plain) hf
  have hfill := fill_spec ν place (parts.toList.map fun (x : Nat × Operand) => (x.1, a.eval x.2)) ps ti.zero cs (by simpa using h1) h3 hf
  have hu := (hT t ti hs).und
  refine out_pure hR hd (v := .agg (concs ν cs)) (x := .agg cs) ?_ (.inr ⟨hok, rfl⟩) he
  rcases hpl with ⟨fs, hd', rfl⟩ | ⟨len, esz, ea, hd', rfl⟩
  · rw [hd'] at hu
    obtain ⟨fields, g1, g2, g3⟩ := hu
    have hplaces : (fields.mapM fun f => do Pure.pure (f.offset, ← sizeOf f.type) : Sem (Array (Nat × Nat))).run P w = .ok (fs.map fun f => (f.1, f.2.1)).toArray w := by
      rw [Array.mapM_eq_mapM_toList, Sem.run_map, run_places (fs := fs) w fields.toList 0 (by simp [g2]) (fun j f hj => by
        obtain ⟨off, sz, ag, k1, k2, k3, k4, k5⟩ := g3 j f (by simpa using hj)
        exact ⟨off, sz, ag, k1, k2, k4⟩)]
      rfl
    simp only [execOp, ho, Instr.build, Sem.run_bind, hz1, run_underlying g1, Result.andThen, hplaces, hz2 ν, hmap]
    have : (fun (x : Nat) => ((fs.map fun f => (f.1, f.2.1)).toArray)[x]?) = fun i => (fs[i]?).map fun f => (f.1, f.2.1) := by
      funext x; simp
    rw [this, hfill]
    rfl
  · rw [hd'] at hu
    obtain ⟨el, g1, ⟨inf, g2, g3⟩, -⟩ := hu
    simp only [execOp, ho, Instr.build, Sem.run_bind, hz1, run_underlying g1, Result.andThen, run_size g2 g3, hz2 ν, hmap, hfill]
    rfl
/-- An array of cells that holds rows. -/
structure RepRows (ν : Env) (A : Array Value) (rows : List (List Cell)) (wd : Nat) : Prop where
  size : A.size = rows.length * wd
  width : ∀ r ∈ rows, r.length = wd
  get : ∀ (row j : Nat) (r : List Cell) (c : Cell), rows[row]? = some r → r[j]? = some c → A[row * wd + j]? = some (c.conc ν)
theorem row_lt {rows : List (List Cell)} {row wd : Nat} (h : row < rows.length) : row * wd + wd ≤ rows.length * wd := by
  have : (row + 1) * wd ≤ rows.length * wd := Nat.mul_le_mul_right _ h
  rw [Nat.add_mul, Nat.one_mul] at this
  exact this
theorem row_ne {row row' wd j : Nat} (h : row' ≠ row) (hj : j < wd) : ¬ (row * wd ≤ row' * wd + j ∧ row' * wd + j < row * wd + wd) := by
  rintro ⟨q1, q2⟩
  rcases Nat.lt_or_gt_of_ne h with hlt | hgt
  · have : (row' + 1) * wd ≤ row * wd := Nat.mul_le_mul_right _ hlt
    rw [Nat.add_mul, Nat.one_mul] at this
    omega
  · have : (row + 1) * wd ≤ row' * wd := Nat.mul_le_mul_right _ hgt
    rw [Nat.add_mul, Nat.one_mul] at this
    omega
theorem fillRows_spec (ν : Env) {wd : Nat} : ∀ (parts : List (Nat × Value)) (ps : List (Nat × List Cell)) (rows rows' : List (List Cell)) (A : Array Value), parts.length = ps.length → (∀ (j : Nat) (i : Nat) (v : Value), parts[j]? = some (i, v) → ∃ p, ps[j]? = some (i, p) ∧ v.cells = concs ν p) →
    RepRows ν A rows wd → fillRows rows ps = some rows' → ∃ A', Instr.fill (fun i => some (i * wd, wd)) A parts = some A' ∧ RepRows ν A' rows' wd ∧ rows'.length = rows.length
  | [], ps, rows, rows', A, hl, _, hr, h => by
    have : ps = [] := List.eq_nil_of_length_eq_zero hl.symm
    subst this
    simp only [fillRows, Option.some.injEq] at h
    subst h
    exact ⟨A, rfl, hr, rfl⟩
  | (i, v) :: parts, ps, rows, rows', A, hl, hp, hr, h => by
    cases ps with
    | nil => cases hl
    | cons q ps =>
      obtain ⟨i', p⟩ := q
      obtain ⟨p', h1, h2⟩ := hp 0 i v rfl
      simp only [List.getElem?_cons_zero, Option.some.injEq, Prod.mk.injEq] at h1
      obtain ⟨rfl, rfl⟩ := h1
      unfold fillRows at h
      split at h
      · rename_i r hri
        split at h
        · rename_i hpl
          have hrw := hr.width r (List.mem_of_getElem? hri)
          have hil : i' < rows.length := (List.getElem?_eq_some_iff.1 hri).1
          have hsp := row_lt (wd := wd) hil
          have hvs : v.cells.size = wd := by rw [h2, concs_size]; omega
          obtain ⟨g1, g2⟩ := fold_get (i' * wd) v.cells A (by rw [hvs, hr.size]; omega)
          have hrep : RepRows ν (v.cells.zipIdx.foldl (fun cs (p : Value × Nat) => cs.setIfInBounds (i' * wd + p.2) p.1) A) (rows.set i' p) wd := by
            refine ⟨by rw [g1, hr.size, List.length_set], fun r' hr' => ?_, fun row j r' c hrr hc => ?_⟩
            · rcases List.mem_or_eq_of_mem_set hr' with hr' | rfl
              · exact hr.width r' hr'
              · omega
            · rw [g2, hvs]
              by_cases hq : row = i'
              · subst hq
                rw [List.getElem?_set_self hil] at hrr
                injection hrr with hrr
                subst hrr
                have := (List.getElem?_eq_some_iff.1 hc).1
                rw [if_pos (by omega), Nat.add_sub_cancel_left, h2, concs_get, hc]
                rfl
              · rw [List.getElem?_set_ne (Ne.symm hq)] at hrr
                have hj : j < wd := by rw [← hr.width r' (List.mem_of_getElem? hrr)]; exact (List.getElem?_eq_some_iff.1 hc).1
                rw [if_neg (row_ne hq hj)]
                exact hr.get row j r' c hrr hc
          obtain ⟨A', k1, k2, k3⟩ := fillRows_spec ν parts ps (rows.set i' p) rows' _ (by simpa using hl) (fun j i v hj => hp (j + 1) i v hj) hrep h
          refine ⟨A', ?_, k2, by rw [k3, List.length_set]⟩
          unfold Instr.fill
          show (if (decide (v.cells.size ≠ wd) || decide (i' * wd + v.cells.size > A.size)) = true then none else _) = _
          rw [if_neg (by rw [hvs, hr.size]; simp; omega)]
          exact k1
        · cases h
      · cases h
theorem fillRows_ok {D : Nm → Prop} : ∀ (ps : List (Nat × List Cell)) (rows rows' : List (List Cell)), (∀ (j i : Nat) (p : List Cell), ps[j]? = some (i, p) → ∀ c ∈ p, Cell.ok D c) → (∀ r ∈ rows, ∀ c ∈ r, Cell.ok D c) → fillRows rows ps = some rows' → ∀ r ∈ rows', ∀ c ∈ r, Cell.ok D c
  | [], rows, rows', _, h2, h => by
    simp only [fillRows, Option.some.injEq] at h
    subst h
    exact h2
  | (i, p) :: ps, rows, rows', h1, h2, h => by
    unfold fillRows at h
    split at h
    · split at h
      · refine fillRows_ok ps _ rows' (fun j i p hj => h1 (j + 1) i p hj) (fun r hr c hc => ?_) h
        rcases List.mem_or_eq_of_mem_set hr with hr | rfl
        · exact h2 r hr c hc
        · exact h1 0 i r rfl c hc
      · cases h
    · cases h
theorem zero_rows (ν : Env) (z : Array Value) {zc : List Cell} (hz : z = concs ν zc) (len wd : Nat) (hw : zc.length = wd) : RepRows ν ((Array.range (len * wd)).map (z[· % z.size]!)) (List.replicate len zc) wd := by
  refine ⟨by simp, fun r hr => by rw [(List.mem_replicate.1 hr).2]; exact hw, fun row j r c hr hc => ?_⟩
  rw [List.getElem?_replicate] at hr
  split at hr
  · rename_i hlt
    injection hr with hr
    subst hr
    have hj := (List.getElem?_eq_some_iff.1 hc).1
    have hsp : row * wd + wd ≤ len * wd := by
      have : (row + 1) * wd ≤ len * wd := Nat.mul_le_mul_right _ hlt
      rw [Nat.add_mul, Nat.one_mul] at this
      exact this
    rw [Array.getElem?_map, Array.getElem?_range, if_pos (by omega)]
    simp only [Option.map_some]
    congr 1
    subst hz
    rw [concs_size, hw, Nat.mul_comm, Nat.mul_add_mod, Nat.mod_eq_of_lt (by omega)]
    have := concs_get ν zc j
    rw [hc] at this
    simp [getElem!_def, this]
  · cases hr
theorem op_buildSlice (hR : Rel base w0 N ν st a w) (hd : ∀ s, o.dst = some s → s < N) (hT : TabOK P tab) {t : TypeId} {len : Nat} {parts : Array (Nat × Operand)} (ho : o.op = .buildSlice t len parts) {ti te : TI} (hs : tab t = some ti) {el : TypeId} (hel : ti.d = .slice el) (hte : tab el = some te)
    {ps : List (Nat × List Cell)} (hp : partsOf st parts.toList = some ps) (h0 : 0 < te.sz) (hmax : len * te.sz ≤ 16777216) {rows : List (List Cell)} (hf : fillRows (List.replicate len te.zero) ps = some rows)
    (he : newA st o.dst (fun n => (.c (.slc n 0 te.sz len (some len)), ⟨rows, te.sz, el, true, some len⟩)) = some e) : Out P base w0 N st a w o e := by
  obtain ⟨h1, h2, h3⟩ := partsOf_spec hR _ _ hp
  obtain ⟨z, hz1, hz2⟩ := zero_spec hT hte w
  obtain ⟨inf, g2, g3, -⟩ := (hT el te hte).info
  have hu := (hT t ti hs).und
  rw [hel] at hu
  have hu : P.underlying t = some (.slice el) := hu
  have hmap : (parts.map fun (x : Nat × Operand) => (x.1, a.eval x.2)).toList = parts.toList.map fun (x : Nat × Operand) => (x.1, a.eval x.2) := by simp
  have hzl := (hT el te hte).len
  obtain ⟨A', k1, k2, k3⟩ := fillRows_spec ν (parts.toList.map fun (x : Nat × Operand) => (x.1, a.eval x.2)) ps _ rows _ (by simpa using h1) h3 (zero_rows ν z.cells (hz2 ν) len te.sz hzl) hf
  have hok := fillRows_ok ps _ rows h2 (fun r hr => by rw [(List.mem_replicate.1 hr).2]; exact plain_ok (D := bd st.heap) (hT el te hte).plain) hf
  have hrl : rows.length = len := by rw [k3, List.length_replicate]
  have hlen : len ≤ 16777216 := Nat.le_trans (Nat.le_mul_of_pos_right _ h0) hmax
  refine out_new hR hd he (cells := A') (cap := len) (v := .slice (some ⟨w.heap.size, 0, none⟩) len len) ?_ (fun _ => rfl) (fun _ => rfl) (fun n r hr => k2.width r hr) (fun _ => Nat.le_of_eq hrl) (fun n c hc => ?_) (fun n => ?_) (by unfold maxLen; omega) (fun n row r j c hr hc => ?_) (fun n => ⟨.inl rfl, fun ν' hν => ?_⟩)
  · have hn1 : ¬ (len * te.sz > 2 ^ 24) := by omega
    by_cases hz : len * te.sz = 0
    · have : len = 0 := by
        rcases Nat.mul_eq_zero.1 hz with h | h <;> omega
      subst this
      have e0 : (Array.range (0 * te.sz)).map (z.cells[· % z.cells.size]!) = (Array.range (0 * te.sz)).map ((#[] : Array Value)[· % (#[] : Array Value).size]!) := by simp
      simp only [execOp, ho, Instr.buildSlice, Sem.run_bind, run_underlying hu, run_size g2 g3, Result.andThen, if_neg hn1, if_pos hz, Sem.run_pure, hmap, ← e0, k1]
      rfl
    · simp only [execOp, ho, Instr.buildSlice, Sem.run_bind, run_underlying hu, run_size g2 g3, Result.andThen, if_neg hn1, if_neg hz, Sem.run_pure, hz1, hmap, k1]
      rfl
  · injection hc
  · rw [k2.size, hrl]
  · exact ⟨hok r (List.mem_of_getElem? hr) c (List.mem_of_getElem? hc), k2.get row j r c hr hc⟩
  · show _ = Value.slice (if (ν' n).1.spot.isSome then none else some ((ν' n).1.add (0 * te.sz))) len len
    rw [hν, Nat.zero_mul]; rfl
theorem op_makeSlice (hR : Rel base w0 N ν st a w) (hd : ∀ s, o.dst = some s → s < N) (hT : TabOK P tab) {t : TypeId} {l c : Operand} (ho : o.op = .makeSlice t l c) {ti te : TI} (hs : tab t = some ti) {el : TypeId} (hel : ti.d = .slice el) (hte : tab el = some te)
    {n : Int} (hl : st.ev l = .c (.i .i64 n)) (hc : st.ev c = .c (.i .i64 n)) (hn0 : 0 ≤ n) (_h0 : 0 < te.sz) (hn1 : n ≤ 9223372036854775807) (hn2 : te.by_ * n ≤ 281474976710656)
    (he : newA st o.dst (fun m => (.c (.slc m 0 te.sz n.toNat (some n.toNat)), ⟨List.replicate n.toNat te.zero, te.sz, el, true, some n.toNat⟩)) = some e) : Out P base w0 N st a w o e := by
  obtain ⟨z, hz1, hz2⟩ := zero_spec hT hte w
  obtain ⟨inf, g2, g3, g4, -⟩ := (hT el te hte).info
  have hu := (hT t ti hs).und
  rw [hel] at hu
  have hu : P.underlying t = some (.slice el) := hu
  obtain ⟨-, hl'⟩ := hR.ev_c hl
  obtain ⟨-, hc'⟩ := hR.ev_c hc
  obtain ⟨m, rfl⟩ := Int.eq_ofNat_of_zero_le hn0
  have hzl := (hT el te hte).len
  have k2 := zero_rows ν z.cells (hz2 ν) m te.sz hzl
  have hm : m ≤ maxLen := by unfold maxLen; omega
  have hwr : IntKind.i64.wrap (m : Int) = m := IntWalk.i64_in _ (by omega)
  refine out_new hR hd he (cells := (Array.range (m * te.sz)).map (z.cells[· % z.cells.size]!)) (cap := m) (v := .slice (some ⟨w.heap.size, 0, none⟩) m m) ?_ (fun _ => rfl) (fun _ => rfl) (fun n r hr => k2.width r (by simpa using hr)) (fun _ => by simp) (fun n c hc => ?_) (fun n => ?_) hm (fun n row r j c hr hc => ?_) (fun n => ⟨.inl rfl, fun ν' hν => ?_⟩)
  · obtain ⟨z', hz3⟩ : ∃ z', inf.zero = some z' := by
      obtain ⟨inf', e1, e2, e3, z', e4, -⟩ := (hT el te hte).info
      rw [g2] at e1
      injection e1 with e1
      subst e1
      exact ⟨z', e4⟩
    have hzz : z' = z := by
      unfold zeroValue at hz1
      simp only [Sem.run_bind, run_typeInfo w g2, Result.andThen, hz3] at hz1
      injection hz1
    subst hzz
    have := run_make (P := P) w t el inf z' hu g2 hz3 .i64 .i64 m m (by omega) (Int.le_refl _) (by rw [g4]; exact hn2) hn1
    simp only [execOp, ho, hl', hc', Cell.conc, Sem.run_bind, this, Result.andThen, Sem.run_pure, Int.toNat_natCast, g3, madeCells]
  · injection hc
  · rw [k2.size, List.length_replicate]
  · refine ⟨?_, k2.get row j r c (by simpa using hr) hc⟩
    have : r = te.zero := by
      have := List.mem_of_getElem? hr
      exact (List.mem_replicate.1 this).2
    subst this
    exact plain_ok (D := bd st.heap) (hT el te hte).plain c (List.mem_of_getElem? hc)
  · show _ = Value.slice (if (ν' n).1.spot.isSome then none else some ((ν' n).1.add (0 * te.sz))) m m
    rw [hν, Nat.zero_mul]; rfl
theorem evArgs_arr (hR : Rel base w0 N ν st a w) {l : Array Operand} {vs : List AV} (h : evArgs st l.toList = some vs) : (∀ v ∈ vs, v.ok (bd st.heap)) ∧ l.map a.eval = (vs.map (·.conc ν)).toArray := by
  obtain ⟨h1, h2⟩ := evArgs_spec hR _ _ h
  refine ⟨h1, ?_⟩
  rw [← h2]
  apply Array.ext'
  simp
theorem run_max : ∀ (r : List AV) (m k : Int), maxA m r = some k → (List.foldlM Builtin.max2 (.int .i64 m) (r.map (·.conc ν))).run P w = .ok (.int .i64 k) w
  | [], m, k, h => by
    simp only [maxA, Option.some.injEq] at h
    subst h; rfl
  | x :: r, m, k, h => by
    unfold maxA at h
    split at h
    · rename_i n
      have ih := run_max r _ _ h
      have : (if n > m then n else m) = max m n := by omega
      simp only [List.map_cons, List.foldlM_cons, Sem.run_bind, AV.conc, Cell.conc, Builtin.max2, Sem.run_pure, Result.andThen, this, ih]
    · cases h
theorem run_min : ∀ (r : List AV) (m k : Int), minA m r = some k → (List.foldlM Builtin.min2 (.int .i64 m) (r.map (·.conc ν))).run P w = .ok (.int .i64 k) w
  | [], m, k, h => by
    simp only [minA, Option.some.injEq] at h
    subst h; rfl
  | x :: r, m, k, h => by
    unfold minA at h
    split at h
    · rename_i n
      have ih := run_min r _ _ h
      have : (if n < m then n else m) = min m n := by omega
      simp only [List.map_cons, List.foldlM_cons, Sem.run_bind, AV.conc, Cell.conc, Builtin.min2, Sem.run_pure, Result.andThen, this, ih]
    · cases h
theorem op_builtin (hR : Rel base w0 N ν st a w) (hd : ∀ s, o.dst = some s → s < N) (hT : TabOK P tab) {b : Builtin} {args : Array Operand} {tys : Array TypeId} (ho : o.op = .call { callee := .builtin b, args := args, argTypes := tys }) {vs : List AV} (hvs : evArgs st args.toList = some vs)
    (hlen : b = .len → ∃ t ti el, tys.toList = [t] ∧ tab t = some ti ∧ ti.d = .slice el) {v : AV} (hv : builtinA b vs = some v) (he : e = ⟨v, [], []⟩) : Out P base w0 N st a w o e := by
  obtain ⟨-, h2⟩ := evArgs_arr hR hvs
  unfold builtinA at hv
  split at hv
  · rename_i n row wd len cap
    injection hv with hv
    subst hv
    obtain ⟨t, ti, el, h3, h4, h5⟩ := hlen rfl
    have hu := (hT t ti h4).und
    rw [h5] at hu
    have hu : P.underlying t = some (.slice el) := hu
    have h3' : tys = #[t] := by rw [← Array.toArray_toList (xs := tys), h3]
    refine out_pure hR hd (v := .int .i64 len) (x := .c (.i .i64 len)) ?_ (.inr ⟨trivial, rfl⟩) he
    simp only [execOp, ho, resolve, invoke, builtin, Builtin.len_, h2, h3', Sem.run_bind, Sem.run_pure, Result.andThen, List.map_cons, List.map_nil, AV.conc, Cell.conc]
    simp [run_underlying hu, goInt]
  · injection hv with hv
    subst hv
    obtain ⟨t, ti, el, h3, h4, h5⟩ := hlen rfl
    have hu := (hT t ti h4).und
    rw [h5] at hu
    have hu : P.underlying t = some (.slice el) := hu
    have h3' : tys = #[t] := by rw [← Array.toArray_toList (xs := tys), h3]
    refine out_pure hR hd (v := .int .i64 0) (x := .c (.i .i64 0)) ?_ (.inr ⟨trivial, rfl⟩) he
    simp only [execOp, ho, resolve, invoke, builtin, Builtin.len_, h2, h3', Sem.run_bind, Sem.run_pure, Result.andThen, List.map_cons, List.map_nil, AV.conc, Cell.conc]
    simp [run_underlying hu, goInt]
  · rename_i n r
    obtain ⟨k, hk, rfl⟩ := Option.map_eq_some_iff.1 hv
    refine out_pure hR hd (v := .int .i64 k) (x := .c (.i .i64 k)) ?_ (.inr ⟨trivial, rfl⟩) he
    have := run_max (P := P) (w := w) (ν := ν) r n k hk
    simp only [execOp, ho, resolve, invoke, builtin, Builtin.max_, h2, Sem.run_bind, Sem.run_pure, Result.andThen, List.map_cons, AV.conc, Cell.conc, this]
  · rename_i n r
    obtain ⟨k, hk, rfl⟩ := Option.map_eq_some_iff.1 hv
    refine out_pure hR hd (v := .int .i64 k) (x := .c (.i .i64 k)) ?_ (.inr ⟨trivial, rfl⟩) he
    have := run_min (P := P) (w := w) (ν := ν) r n k hk
    simp only [execOp, ho, resolve, invoke, builtin, Builtin.min_, h2, Sem.run_bind, Sem.run_pure, Result.andThen, List.map_cons, AV.conc, Cell.conc, this]
  · cases hv
theorem op_makeFunc (hR : Rel base w0 N ν st a w) (hd : ∀ s, o.dst = some s → s < N) {f : FuncId} {first caps : Array Operand} (ho : o.op = .makeFunc (.func f) first caps) (hf : first.size = 0) {vs : List AV} (hvs : evArgs st caps.toList = some vs) {cs : List Cell} (hcs : vs = cs.map .c) (he : e = ⟨.fn f cs, [], []⟩) : Out P base w0 N st a w o e := by
  obtain ⟨h1, h2⟩ := evArgs_arr hR hvs
  have hf' : first = #[] := Array.eq_empty_of_size_eq_zero hf
  subst hcs
  refine out_pure hR hd (v := .func (.func f) #[] (concs ν cs)) (x := .fn f cs) ?_ (.inr ⟨fun c hc => h1 (.c c) (List.mem_map.2 ⟨c, hc, rfl⟩), rfl⟩) he
  simp only [execOp, ho, Instr.makeFunc, h2, hf', Sem.run_bind, Sem.run_pure, Result.andThen, concs, List.map_map, Array.map_empty]
  rfl
theorem flat_get {α : Type} {wd : Nat} : ∀ (rows : List (List α)), (∀ r ∈ rows, r.length = wd) → ∀ (row j : Nat), j < wd → rows.flatten[row * wd + j]? = (rows[row]?).bind (·[j]?)
  | [], _, row, j, _ => by simp
  | r :: rows, h, row, j, hj => by
    have hr := h r (List.mem_cons_self ..)
    rw [List.flatten_cons]
    cases row with
    | zero => rw [Nat.zero_mul, Nat.zero_add, List.getElem?_append_left (by omega)]; rfl
    | succ k =>
      rw [List.getElem?_append_right (by rw [hr, Nat.add_mul, Nat.one_mul]; omega), hr, List.getElem?_cons_succ, ← flat_get rows (fun r' hr' => h r' (List.mem_cons_of_mem _ hr')) k j hj]
      congr 1
      rw [Nat.add_mul, Nat.one_mul]
      omega
theorem flat_len {α : Type} {wd : Nat} : ∀ (rows : List (List α)), (∀ r ∈ rows, r.length = wd) → rows.flatten.length = rows.length * wd
  | [], _ => by simp
  | r :: rows, h => by
    rw [List.flatten_cons, List.length_append, h r (List.mem_cons_self ..), flat_len rows (fun r' hr' => h r' (List.mem_cons_of_mem _ hr')), List.length_cons, Nat.add_mul, Nat.one_mul, Nat.add_comm]
/-- Cells by row and place are the flat list. -/
theorem flat_eq {ν : Env} {wd : Nat} (hw : 0 < wd) {rows : List (List Cell)} (h : ∀ r ∈ rows, r.length = wd) (f : Nat → Option Value) (hf : ∀ row j r c, rows[row]? = some r → r[j]? = some c → f (row * wd + j) = some (c.conc ν)) (k : Nat) (hk : k < rows.length * wd) :
    f k = (rows.flatten.map (·.conc ν))[k]? := by
  have hdiv : k = k / wd * wd + k % wd := by rw [Nat.mul_comm]; exact (Nat.div_add_mod k wd).symm
  have hm : k % wd < wd := Nat.mod_lt _ hw
  have hrow : k / wd < rows.length := Nat.div_lt_of_lt_mul (by rw [Nat.mul_comm]; exact hk)
  have hr := List.getElem?_eq_getElem hrow
  have hc : (rows[k / wd])[k % wd]? = some ((rows[k / wd])[k % wd]'(by rw [h _ (List.getElem_mem hrow)]; exact hm)) := List.getElem?_eq_getElem _
  rw [hdiv, hf _ _ _ _ hr hc, List.getElem?_map, flat_get rows h _ _ hm, hr]
  simp only [Option.bind_some, hc, Option.map_some]
end
end Go.AbsK

namespace Go.AbsK
open Go.RowKit

section
variable {P : Program} {tab : Tab} {EQ : TypeId → Option Shp} {C : Orc} {base : Nat} {w0 : Anch} {N : Nat} {ν : Env} {st : St} {a : Act} {w : World} {o : Oper} {e : Eff} {h : Nm → Option Blk} {gen : Nat} {D : Nm → Prop} {n : Nm} {blk : Blk}
theorem dead_rel (base : Nat) (w : World) (ν : Env) (D : Nm → Prop) (n : Nm) (b : Blk) (h0 : (ν n).1.spot ≠ none → (ν n).2 = 0) : BlkRel base w ν D n (dead b) :=
  ⟨fun r hr => (by cases hr), fun row r j c hr => (by simp [dead] at hr), fun hs => ⟨rfl, h0 hs, fun c hc => by cases hc⟩, fun ho => (by cases ho)⟩
theorem own_addr (hb : BlkRel base w ν D n blk) (ho : blk.own = true) (h2 : (ν n).1.spot = none) : (ν n).1 = ⟨(ν n).1.block, 0, none⟩ := by
  obtain ⟨h1, -⟩ := hb.own ho h2
  cases hq : (ν n).1 with
  | mk b o s => rw [hq] at h1 h2; simp only at h1 h2; subst h1 h2; rfl
theorem add_at (b k : Nat) : (⟨b, 0, none⟩ : Addr).add k = ⟨b, k, none⟩ := by unfold Addr.add; split <;> simp_all
def deadL : Option (Nm × Blk) → List (Nm × Blk)
  | none => []
  | some p => [(p.1, dead p.2)]
/-- Behind an append: the new block, and the old one (if there was one) is dead. -/
theorem HRel.appended (hh : HRel base w0 ν h gen w) {w' : World} {n : Nm} (hn : h n = none) (hg : n.2 = gen) {nb : Blk} (hown : nb.own = true) (hcapn : nb.cap = none) (hw : ∀ r ∈ nb.rows, r.length = nb.w) (hwp : 0 < nb.w)
    (hok : ∀ r ∈ nb.rows, ∀ c ∈ r, Cell.ok (bd h) c) {src : Option (Nm × Blk)} (hsrc : ∀ m b, src = some (m, b) → h m = some b ∧ b.own = true ∧ (ν m).1.spot = none) {row : Option Nat} (hrow : row = src.map fun p => (ν p.1).1.block) (hgr : w.grownBy w' row)
    {g cap : Nat} {cur : Array Value} (hcell : w'.heap[g]? = some (.cells cur nb.ty (0, 0))) (hcs : cur.size = cap * nb.w) (hcap : cap ≤ maxLen) (hlen : nb.rows.length ≤ cap) (hcur : cur.toList.take (nb.rows.length * nb.w) = nb.rows.flatten.map (·.conc ν))
    (hgb : some g = row ∨ w.heap.size ≤ g) :
    HRel base w0 (updE ν n (⟨g, 0, none⟩, cap)) (updH h ((n, nb) :: deadL src)) gen w' := by
  have hν : ∀ m, bd h m → updE ν n (⟨g, 0, none⟩, cap) m = ν m := by
    intro m hm
    refine updE_other _ _ _ _ (fun e => ?_)
    subst e
    unfold bd at hm
    rw [hn] at hm
    cases hm
  have hbase : base ≤ g := by
    rcases hgb with hgb | hgb
    · rw [hrow] at hgb
      cases src with
      | none => cases hgb
      | some p =>
        obtain ⟨m, b⟩ := p
        obtain ⟨h1, h2, h2s⟩ := hsrc m b rfl
        injection hgb with hgb
        rw [hgb]
        exact ((hh.heap m b h1).own h2 h2s).2.1
    · exact Nat.le_trans hh.base_le hgb
  have hD : ∀ m, bd h m → bd (updH h ((n, nb) :: deadL src)) m := fun m hm => bd_updH _ _ _ hm
  -- an old block that lives on
  have hold : ∀ m b, h m = some b → (∀ p, src = some p → p.1 ≠ m) → BlkRel base w' (updE ν n (⟨g, 0, none⟩, cap)) (bd (updH h ((n, nb) :: deadL src))) m b := by
    intro m b hm hne
    have hνm := hν m (by unfold bd; rw [hm]; rfl)
    by_cases hsm : (ν m).1.spot = none
    · refine (hh.heap m b hm).grow (fun k hk hkb hro => hgr.block k hk (fun e => ?_)) hνm hν hD
      subst hkb
      rw [hrow] at e
      cases src with
      | none => cases e
      | some p =>
        obtain ⟨m', b'⟩ := p
        obtain ⟨h1, h2, h2s⟩ := hsrc m' b' rfl
        injection e with e
        replace e : (ν m).1.block = (ν m').1.block := e
        cases hbo : b.own with
        | true => exact hh.inj m m' b b' hm h1 hbo h2 hsm h2s (fun e => hne _ rfl e.symm) e
        | false =>
          have := hro hbo
          have := ((hh.heap m' b' h1).own h2 h2s).2.1
          omega
    · have hrows := (hh.heap m b hm).nil hsm
      exact ⟨(hh.heap m b hm).width, fun row r j c hr hc => (by rw [hrows.1] at hr; simp at hr), fun _ => by rw [hνm]; exact hrows, fun _ hs => absurd (by rw [← hνm]; exact hs) hsm⟩
  have hcase : ∀ m b, updH h ((n, nb) :: deadL src) m = some b → (m = n ∧ b = nb) ∨ (m ≠ n ∧ b.own = false ∧ ∃ b', b = dead b' ∧ (updE ν n (⟨g, 0, none⟩, cap) m).1.spot = none) ∨ (m ≠ n ∧ h m = some b ∧ ∀ p, src = some p → p.1 ≠ m) := by
    intro m b hm
    replace hm : (if m = n then some nb else updH h (deadL src) m) = some b := hm
    split at hm
    · rename_i he
      injection hm with hm
      exact .inl ⟨he, hm.symm⟩
    · rename_i hne
      cases src with
      | none => exact .inr (.inr ⟨hne, hm, fun p hp => by cases hp⟩)
      | some p =>
        obtain ⟨m', b'⟩ := p
        replace hm : (if m = m' then some (dead b') else h m) = some b := hm
        split at hm
        · rename_i hmm
          injection hm with hm
          obtain ⟨s1, s2, s3⟩ := hsrc m' b' rfl
          exact .inr (.inl ⟨hne, by rw [← hm]; rfl, b', hm.symm, by rw [hmm, hν m' (by unfold bd; rw [s1]; rfl)]; exact s3⟩)
        · rename_i hne'
          exact .inr (.inr ⟨hne, hm, fun p hp => by injection hp with hp; subst hp; exact fun e => hne' e.symm⟩)
  refine ⟨fun m b hm => ?_, fun m m' b b' hm hm' ho ho' hs hs' hne => ?_, ?_, fun m hm => ⟨(hh.anc m hm).1, hD m (hh.anc m hm).2.1, (hν m (hh.anc m hm).2.1).trans (hh.anc m hm).2.2⟩, Nat.le_trans hh.base_le hgr.size, fun d k hk => ?_, hh.oth.trans (KeepsOthers.of_grownBy hgr (fun j o hj ho => by
      rw [hrow] at hj
      cases src with
      | none => cases hj
      | some p =>
        obtain ⟨m', b'⟩ := p
        obtain ⟨h1, h2, h2s⟩ := hsrc m' b' rfl
        obtain ⟨_, _, _, _, _, arr, h6, _⟩ := (hh.heap m' b' h1).own h2 h2s
        injection hj with hj
        subst hj
        rw [h6] at ho
        injection ho with ho
        subst ho
        rfl))⟩
  · rcases hcase m b hm with ⟨rfl, rfl⟩ | ⟨_, _, b', rfl, hsp⟩ | ⟨_, h1, h2⟩
    · refine ⟨hw, fun rw_ r j c hr hc => ?_, fun hs => absurd (by rw [updE_same]) hs, fun _ _ => ?_⟩
      · have hcok := hok r (List.mem_of_getElem? hr) c (List.mem_of_getElem? hc)
        refine ⟨Cell.ok_mono hD hcok, ?_, fun he => by rw [hown] at he; cases he⟩
        have hrl : rw_ < b.rows.length := (List.getElem?_eq_some_iff.1 hr).1
        have hj : j < b.w := by rw [← hw r (List.mem_of_getElem? hr)]; exact (List.getElem?_eq_some_iff.1 hc).1
        have hsp := row_lt (wd := b.w) hrl
        rw [Cell.conc_eq hν hcok, updE_same, add_at]
        unfold World.cell?
        rw [hcell]
        show cur[rw_ * b.w + j]? = _
        have : (cur.toList.take (b.rows.length * b.w))[rw_ * b.w + j]? = cur[rw_ * b.w + j]? := by
          rw [List.getElem?_take, if_pos (by omega), Array.getElem?_toList]
        rw [← this, hcur, List.getElem?_map, flat_get b.rows hw _ _ hj, hr]
        simp only [Option.bind_some, hc, Option.map_some]
      · rw [updE_same]
        exact ⟨rfl, hbase, hlen, hcap, fun c hc => (by rw [hcapn] at hc; cases hc), cur, hcell, hcs⟩
    · exact dead_rel _ _ _ _ _ _ (fun h => absurd hsp h)
    · exact hold m b h1 h2
  · have hlive : ∀ k b, h k = some b → b.own = true → (ν k).1.spot = none → (∀ p, src = some p → p.1 ≠ k) → (ν k).1.block ≠ g := by
      intro k b hk hbo hks hne
      have hlt := own_lt (hh.heap k b hk) hbo hks
      rcases hgb with hgb | hgb
      · rw [hrow] at hgb
        cases src with
        | none => cases hgb
        | some p =>
          obtain ⟨m', b'⟩ := p
          obtain ⟨h1, h2, h2s⟩ := hsrc m' b' rfl
          injection hgb with hgb
          rw [hgb]
          exact hh.inj k m' b b' hk h1 hbo h2 hks h2s (fun e => hne _ rfl e.symm)
      · omega
    rcases hcase m b hm with ⟨rfl, rfl⟩ | ⟨_, hf, _⟩ | ⟨hmn, h1, h2⟩
    · rcases hcase m' b' hm' with ⟨rfl, rfl⟩ | ⟨_, hf, _⟩ | ⟨hmn', h1', h2'⟩
      · exact absurd rfl hne
      · rw [hf] at ho'; cases ho'
      · have hνm := hν m' (by unfold bd; rw [h1']; rfl)
        rw [updE_same, hνm]
        exact Ne.symm (hlive m' b' h1' ho' (by rw [← hνm]; exact hs') h2')
    · rw [hf] at ho; cases ho
    · rcases hcase m' b' hm' with ⟨rfl, rfl⟩ | ⟨_, hf, _⟩ | ⟨hmn', h1', h2'⟩
      · have hνm := hν m (by unfold bd; rw [h1]; rfl)
        rw [updE_same, hνm]
        exact hlive m b h1 ho (by rw [← hνm]; exact hs) h2
      · rw [hf] at ho'; cases ho'
      · have hνm := hν m (by unfold bd; rw [h1]; rfl)
        have hνm' := hν m' (by unfold bd; rw [h1']; rfl)
        rw [hνm, hνm']
        exact hh.inj m m' b b' h1 h1' ho ho' (by rw [← hνm]; exact hs) (by rw [← hνm']; exact hs') hne
  · refine hh.below.trans ⟨hgr.os, hgr.tape, hgr.output, hgr.size, fun k hk => hgr.block k (Nat.lt_of_lt_of_le hk hh.base_le) (fun e => ?_)⟩
    rw [hrow] at e
    cases src with
    | none => cases e
    | some p =>
      obtain ⟨m', b'⟩ := p
      obtain ⟨h1, h2, h2s⟩ := hsrc m' b' rfl
      injection e with e
      replace e : k = (ν m').1.block := e
      have := ((hh.heap m' b' h1).own h2 h2s).2.1
      omega
  · have h0 := hh.fresh d k hk
    show (if (d, k) = n then some nb else updH h (deadL src) (d, k)) = none
    rw [if_neg (fun e => by subst e; simp at hg; omega)]
    cases src with
    | none => exact h0
    | some p =>
      obtain ⟨m', b'⟩ := p
      show (if (d, k) = m' then some (dead b') else h (d, k)) = none
      rw [if_neg (fun e => by subst e; have := (hsrc _ _ rfl).1; rw [h0] at this; cases this)]
      exact h0
/-- A name for a nil slice. -/
def nilA : Addr × Nat := (⟨0, 0, some 0⟩, 0)
theorem HRel.ghost (hh : HRel base w0 ν h gen w) {n : Nm} (hn : h n = none) (hg : n.2 ≤ gen) (hd : ¬ w0.D n) {nb : Blk} (hr : nb.rows = []) (hc0 : nb.cap.getD 0 = 0) : HRel base w0 (updE ν n nilA) (updH h [(n, nb)]) gen w := by
  have hν : ∀ m, bd h m → updE ν n nilA m = ν m := by
    intro m hm
    refine updE_other _ _ _ _ (fun e => ?_)
    subst e
    unfold bd at hm
    rw [hn] at hm
    cases hm
  have hD : ∀ m, bd h m → bd (updH h [(n, nb)]) m := fun m hm => bd_updH _ _ _ hm
  have hcase : ∀ m b, updH h [(n, nb)] m = some b → (m = n ∧ b = nb) ∨ (m ≠ n ∧ h m = some b) := by
    intro m b hm
    replace hm : (if m = n then some nb else h m) = some b := hm
    split at hm
    · rename_i he; injection hm with hm; exact .inl ⟨he, hm.symm⟩
    · rename_i he; exact .inr ⟨he, hm⟩
  refine ⟨fun m b hm => ?_, fun m m' b b' hm hm' ho ho' hs hs' hne => ?_, hh.below, fun m hm => ⟨(hh.anc m hm).1, hD m (hh.anc m hm).2.1, (hν m (hh.anc m hm).2.1).trans (hh.anc m hm).2.2⟩, hh.base_le, fun d k hk => ?_, hh.oth⟩
  · rcases hcase m b hm with ⟨rfl, rfl⟩ | ⟨hne, h1⟩
    · exact ⟨fun r hr' => (by rw [hr] at hr'; cases hr'), fun row r j c hr' => (by rw [hr] at hr'; simp at hr'), fun _ => ⟨hr, by rw [updE_same]; rfl, fun c hc => by rw [hc] at hc0; exact hc0⟩, fun _ hs => (by rw [updE_same] at hs; cases hs)⟩
    · exact (hh.heap m b h1).grow (fun k hk _ _ => rfl) (hν m (by unfold bd; rw [h1]; rfl)) hν hD
  · rcases hcase m b hm with ⟨rfl, rfl⟩ | ⟨hne1, h1⟩
    · rw [updE_same] at hs; cases hs
    rcases hcase m' b' hm' with ⟨rfl, rfl⟩ | ⟨hne2, h2⟩
    · rw [updE_same] at hs'; cases hs'
    have e1 := hν m (by unfold bd; rw [h1]; rfl)
    have e2 := hν m' (by unfold bd; rw [h2]; rfl)
    rw [e1, e2]
    exact hh.inj m m' b b' h1 h2 ho ho' (by rw [← e1]; exact hs) (by rw [← e2]; exact hs') hne
  · show (if (d, k) = n then some nb else h (d, k)) = none
    rw [if_neg (fun e => by subst e; simp only at hg; omega)]
    exact hh.fresh d k hk
theorem updH_append (h : Nm → Option Blk) : ∀ (l l' : List (Nm × Blk)), updH h (l ++ l') = updH (updH h l') l
  | [], l' => rfl
  | (m, b) :: l, l' => by
    funext n
    show (if n = m then some b else updH h (l ++ l') n) = (if n = m then some b else updH (updH h l') l n)
    rw [updH_append h l l']
/-- A block is given up. -/
theorem HRel.kill (hh : HRel base w0 ν h gen w) {n : Nm} {b0 : Blk} (hn : h n = some b0) : HRel base w0 ν (updH h [(n, dead b0)]) gen w := by
  have hD : ∀ m, bd h m → bd (updH h [(n, dead b0)]) m := fun m hm => bd_updH _ _ _ hm
  have hcase : ∀ m b, updH h [(n, dead b0)] m = some b → (m = n ∧ b = dead b0) ∨ (m ≠ n ∧ h m = some b) := by
    intro m b hm
    replace hm : (if m = n then some (dead b0) else h m) = some b := hm
    split at hm
    · rename_i he; injection hm with hm; exact .inl ⟨he, hm.symm⟩
    · rename_i he; exact .inr ⟨he, hm⟩
  refine ⟨fun m b hm => ?_, fun m m' b b' hm hm' ho ho' hs hs' hne => ?_, hh.below, fun m hm => ⟨(hh.anc m hm).1, hD m (hh.anc m hm).2.1, (hh.anc m hm).2.2⟩, hh.base_le, fun d k hk => ?_, hh.oth⟩
  · rcases hcase m b hm with ⟨rfl, rfl⟩ | ⟨hne, h1⟩
    · exact dead_rel _ _ _ _ _ _ (fun hs => ((hh.heap m b0 hn).nil hs).2.1)
    · exact (hh.heap m b h1).grow (fun k hk _ _ => rfl) rfl (fun _ _ => rfl) hD
  · rcases hcase m b hm with ⟨rfl, rfl⟩ | ⟨hne1, h1⟩
    · cases ho
    rcases hcase m' b' hm' with ⟨rfl, rfl⟩ | ⟨hne2, h2⟩
    · cases ho'
    exact hh.inj m m' b b' h1 h2 ho ho' hs hs' hne
  · show (if (d, k) = n then some (dead b0) else h (d, k)) = none
    rw [if_neg (fun e => by subst e; rw [hh.fresh d k hk] at hn; cases hn)]
    exact hh.fresh d k hk
theorem take_width {rows : List (List Cell)} {wd lx : Nat} (h : ∀ r ∈ rows, r.length = wd) : ∀ r ∈ rows.take lx, r.length = wd := fun r hr => h r (List.mem_of_mem_take hr)
/-- The cells of a slice that is read, as one list. -/
theorem news_of (hb : BlkRel base w ν D n blk) (hw : 0 < blk.w) {lx : Nat} (hlx : lx ≤ blk.rows.length) : ((blk.rows.take lx).flatten.map (·.conc ν)).length = lx * blk.w ∧
    ∀ (j : Nat) (u : Value), ((blk.rows.take lx).flatten.map (·.conc ν))[j]? = some u → w.cell? ((ν n).1.add j) = some u := by
  have hwid := take_width (lx := lx) hb.width
  have hl : (blk.rows.take lx).length = lx := by rw [List.length_take]; omega
  have hfl := flat_len _ hwid
  rw [hl] at hfl
  refine ⟨by rw [List.length_map, hfl], fun j u hu => ?_⟩
  have hjl : j < lx * blk.w := by
    have := (List.getElem?_eq_some_iff.1 hu).1
    rw [List.length_map, hfl] at this
    exact this
  have := flat_eq (ν := ν) hw hwid (fun k => w.cell? ((ν n).1.add k)) (fun row j r c hr hc => by
    rw [List.getElem?_take] at hr
    split at hr
    · exact (hb.read row r j c hr hc).2.1
    · cases hr) j (by rw [hl]; exact hjl)
  replace this : w.cell? ((ν n).1.add j) = _ := this
  rw [this]
  exact hu
theorem one_conc (ν : Env) (l : List Cell) : ∀ u ∈ l.map (·.conc ν), u.oneCell' = true := by
  intro u hu
  obtain ⟨c, -, rfl⟩ := List.mem_map.1 hu
  exact one_cell ν c
theorem rows_ok (hb : BlkRel base w ν D n blk) {lx : Nat} : ∀ r ∈ blk.rows.take lx, ∀ c ∈ r, Cell.ok D c := by
  intro r hr c hc
  obtain ⟨row, hrow⟩ := List.getElem?_of_mem (List.mem_of_mem_take hr)
  obtain ⟨j, hj⟩ := List.getElem?_of_mem hc
  exact (hb.read row r j c hrow hj).1
theorem op_append (hR : Rel base w0 N ν st a w) (hd : ∀ s, o.dst = some s → s < N) (hT : TabOK P tab) {t : TypeId} {args : Array Operand} {tys : Array TypeId} {s x : Operand} (ho : o.op = .call { callee := .builtin .append, args := args, argTypes := tys }) (hargs : args.toList = [s, x]) (htys : tys.toList = [t, t])
    (he : appendA tab t st o.dst (st.ev s) (st.ev x) = some e) : Out P base w0 N st a w o e := by
  have hargs' : args = #[s, x] := by rw [← Array.toArray_toList (xs := args), hargs]
  have htys' : tys = #[t, t] := by rw [← Array.toArray_toList (xs := tys), htys]
  subst hargs' htys'
  unfold appendA at he
  split at he
  · cases he
  rename_i ti hti
  split at he
  rotate_left
  · cases he
  rename_i el hel
  split at he
  · cases he
  rename_i te hte
  split at he
  · rename_i hx
    have hu := (hT t ti hti).und
    rw [hel] at hu
    replace hu : P.underlying t = some (.slice el) := hu
    obtain ⟨inf, g1, g2, g3, z, g4, g5, -⟩ := (hT el te hte).info
    obtain ⟨-, hxv⟩ := hR.ev_c hx
    split at he
    · rename_i hs
      injection he with he
      obtain ⟨-, hsv⟩ := hR.ev_c hs
      refine out_pure hR hd (v := .slice none 0 0) (x := .c .nils) ?_ (.inr ⟨trivial, rfl⟩) he.symm
      simp only [execOp, ho, resolve, invoke, builtin, List.map_toArray, List.map_cons, List.map_nil, hsv, hxv, Cell.conc, Sem.run_bind, Sem.run_pure, Result.andThen]
      simp [Builtin.append_, run_underlying hu, run_size g1 g2, Builtin.lenOf, Builtin.firstCells]
    · rename_i ns row ws ls cs hs
      split at he
      rotate_left
      · cases he
      rename_i hle
      injection he with he
      obtain ⟨hsok, hsv⟩ := hR.ev_c hs
      refine out_pure hR hd (v := (Cell.slc ns row ws ls (some cs)).conc ν) (x := .c (.slc ns row ws ls (some cs))) ?_ (.inr ⟨hsok, rfl⟩) he.symm
      simp only [execOp, ho, resolve, invoke, builtin, List.map_toArray, List.map_cons, List.map_nil, hsv, hxv, Cell.conc, Sem.run_bind, Sem.run_pure, Result.andThen, Option.getD_some]
      by_cases hsp : (ν ns).1.spot.isSome = true
      · simp [Builtin.append_, run_underlying hu, run_size g1 g2, Builtin.lenOf, Builtin.firstCells, hle, hsp]
      · simp [Builtin.append_, run_underlying hu, run_size g1 g2, Builtin.lenOf, Builtin.firstCells, storeCells, hle, hsp]
    · cases he
  rotate_left
  · cases he
  rename_i nx wx lx cx hx
  split at he
  · cases he
  rename_i bx hbx
  split at he
  rotate_left
  · cases he
  rename_i hcond
  obtain ⟨c1, c2, c3, c4, c5⟩ := hcond
  have hu := (hT t ti hti).und
  rw [hel] at hu
  replace hu : P.underlying t = some (.slice el) := hu
  obtain ⟨inf, g1, g2, g3, z, g4, g5, -⟩ := (hT el te hte).info
  have hzs : z.cells.size = te.sz := by rw [g5, concs_size]; exact (hT el te hte).len
  obtain ⟨hxok, hxv⟩ := hR.ev_c hx
  have hBx := hR.hr.heap nx bx hbx
  have hwx : 0 < bx.w := by omega
  obtain ⟨n1, n2⟩ := news_of hBx hwx c3
  have hrun0 : ∀ (sv xv v' : Value) (w' : World), a.eval s = sv → a.eval x = xv → (Builtin.append_ #[t, t] o.type #[sv, xv]).run P w = .ok v' w' → (execOp a.eval o).run P w = .ok (.value v') w' := by
    intro sv xv v' w' e1 e2 h1
    simp only [execOp, ho, resolve, invoke, builtin, List.map_toArray, List.map_cons, List.map_nil, e1, e2, Sem.run_bind, Sem.run_pure, Result.andThen, h1]
  have hmaxs : ∀ k : Nat, k * te.by_ ≤ 140737488355328 → k ≤ maxLen := by
    intro k hk
    have : k ≤ k * te.by_ := Nat.le_mul_of_pos_right _ c5
    unfold maxLen
    omega
  -- what is read
  have hxbase : (a.eval x = .slice (some (ν nx).1) lx (cx.getD (ν nx).2) ∧ (ν nx).1.spot = none) ∨ (a.eval x = .slice none lx (cx.getD (ν nx).2) ∧ lx = 0) := by
    rw [hxv]
    cases hsp : (ν nx).1.spot with
    | none => left; simp [Cell.conc, hsp, Addr.add]
    | some q =>
      right
      have := (hBx.nil (by rw [hsp]; simp)).1
      rw [this] at c3
      exact ⟨by simp [Cell.conc, hsp], by simpa using c3⟩
  -- nothing is appended to nothing
  have hnilnil : ∀ d, o.dst = some d → ∀ h', HRel base w0 ν h' st.gen w → h' (d, st.gen) = none → (∀ m, bd st.heap m → bd h' m) → (∀ x, a.eval s = x → x = .slice none 0 0) → lx = 0 → ∀ nb, nb.rows = [] → nb.cap = none →
      e.val = .c (.slc (d, st.gen) 0 te.sz lx none) → updH st.heap e.blks = updH h' [((d, st.gen), nb)] → Out P base w0 N st a w o e := by
    intro d hds h' hH hnone hbd hsv hl0 nb hnb hnc hval hblks
    have hA := hH.ghost (nb := nb) hnone (Nat.le_refl _) (fun hD => by have := (hH.anc _ hD).2.1; unfold bd at this; rw [hnone] at this; cases this) hnb (by rw [hnc]; rfl)
    rw [← hblks] at hA
    refine ⟨.slice none 0 0, w, updE ν (d, st.gen) nilA, .inl (hrun0 _ _ _ _ (hsv _ rfl) rfl ?_), ?_⟩
    · rcases hxbase with ⟨hx1, -⟩ | ⟨hx1, -⟩
      · rw [hx1, hl0]; simp [Builtin.append_, run_underlying hu, run_size g1 g2, Builtin.lenOf, Builtin.firstCells, loadCells, loadCellsFrom]
      · rw [hx1, hl0]; simp [Builtin.append_, run_underlying hu, run_size g1 g2, Builtin.lenOf, Builtin.firstCells]
    · refine hR.value hd (fun m hm => updE_other _ _ _ _ (fun he => ?_)) ?_ hA
      · have := hbd m hm; subst he; unfold bd at this; rw [hnone] at this; cases this
      · rw [hval]
        refine .inr ⟨?_, ?_⟩
        · show (updH st.heap _ (d, st.gen)).isSome = true
          rw [hblks]
          simp [updH]
        · simp [AV.conc, Cell.conc, updE_same, nilA, hl0]
  -- a new block behind a nil slice
  have hnilnew : ∀ d, o.dst = some d → ∀ h', HRel base w0 ν h' st.gen w → h' (d, st.gen) = none → (∀ m, bd st.heap m → bd h' m) → (∀ x, a.eval s = x → x = .slice none 0 0) → lx ≠ 0 → lx * te.by_ ≤ 140737488355328 →
      e.val = .c (.slc (d, st.gen) 0 te.sz lx none) → updH st.heap e.blks = updH h' [((d, st.gen), ⟨bx.rows.take lx, te.sz, el, true, none⟩)] → Out P base w0 N st a w o e := by
    intro d hds h' hH hnone hbd hsv hl0 hby hval hblks
    obtain ⟨hx1, hxs⟩ := hxbase.resolve_right (fun h => hl0 h.2)
    obtain ⟨v', w', r1, r2, r3, r4, r5⟩ := run_append_own_at (P := P) w w.heap.size t o.type el inf z te.sz te.by_ hu g1 g4 g2 g3 hzs c4 (.slice none 0 0) 0 [] ⟨by simp, .inl ⟨rfl, rfl⟩⟩
      (ν nx).1 lx (cx.getD (ν nx).2) ((bx.rows.take lx).flatten.map (·.conc ν)) (by rw [n1, c2]) n2 (one_conc _ _) (by rw [Nat.zero_add]; exact hmaxs _ hby) (by rw [Nat.zero_add]; exact hby) (Nat.le_refl _)
    rw [Nat.zero_add, List.nil_append] at r2
    obtain ⟨rl, hv | ⟨g, cap, cur, rfl, hb, hh, hlc, hcm, hcs, hct⟩⟩ := r2
    · exact absurd (r4.1 hv.1).2 hl0
    have hrl : (bx.rows.take lx).length = lx := by rw [List.length_take]; omega
    have hA := hH.appended (n := (d, st.gen)) (nb := ⟨bx.rows.take lx, te.sz, el, true, none⟩) (src := none) (row := none) hnone rfl rfl rfl (by rw [← c2]; exact take_width hBx.width) c4 (fun r hr c hc => Cell.ok_mono hbd (rows_ok hBx r hr c hc)) (fun _ _ h => by cases h) rfl r3 hh hcs hcm (by rw [hrl]; exact hlc) (by rw [hrl]; exact hct) (.inr hb)
    replace hA : HRel base w0 (updE ν (d, st.gen) (⟨g, 0, none⟩, cap)) (updH h' [((d, st.gen), ⟨bx.rows.take lx, te.sz, el, true, none⟩)]) st.gen w' := hA
    rw [← hblks] at hA
    refine ⟨_, w', updE ν (d, st.gen) (⟨g, 0, none⟩, cap), .inl (hrun0 _ _ _ _ (hsv _ rfl) hx1 r1), ?_⟩
    refine hR.value hd (fun m hm => updE_other _ _ _ _ (fun he => ?_)) ?_ hA
    · have := hbd m hm; subst he; unfold bd at this; rw [hnone] at this; cases this
    · rw [hval]
      refine .inr ⟨?_, ?_⟩
      · show (updH st.heap _ (d, st.gen)).isSome = true
        rw [hblks]
        simp [updH]
      · simp [AV.conc, Cell.conc, updE_same, Addr.add]
  split at he
  · rename_i hs
    split at he
    rotate_left
    · cases he
    rename_i hby
    obtain ⟨f, hf, rfl⟩ := Option.map_eq_some_iff.1 he
    obtain ⟨d, hds, hnone, rfl⟩ := newA_spec hf
    obtain ⟨-, hsv⟩ := hR.ev_c hs
    have hsv' : ∀ x, a.eval s = x → x = .slice none 0 0 := fun x hx => by rw [← hx, hsv]; rfl
    by_cases hl0 : lx = 0
    · exact hnilnil d hds st.heap hR.hr hnone (fun _ h => h) hsv' hl0 _ (by simp [hl0]) rfl rfl rfl
    · exact hnilnew d hds st.heap hR.hr hnone (fun _ h => h) hsv' hl0 hby rfl rfl
  · rename_i ns wsl ls cs hs
    split at he
    · cases he
    rename_i bs hbs
    split at he
    rotate_left
    · cases he
    rename_i hcond2
    obtain ⟨d1, d2, d3, d4, d5, d6, d7, d8⟩ := hcond2
    obtain ⟨f, hf, rfl⟩ := Option.map_eq_some_iff.1 he
    obtain ⟨d, hds, hnone, rfl⟩ := newA_spec hf
    obtain ⟨-, hsv⟩ := hR.ev_c hs
    have hBs := hR.hr.heap ns bs hbs
    have hws : 0 < bs.w := by omega
    have hndn : ns ≠ (d, st.gen) := fun e => by rw [e, hnone] at hbs; cases hbs
    have hkn : updH st.heap [(ns, dead bs)] (d, st.gen) = none := by
      show (if (d, st.gen) = ns then some (dead bs) else st.heap (d, st.gen)) = none
      rw [if_neg (Ne.symm hndn)]
      exact hnone
    by_cases hsp : (ν ns).1.spot = none
    rotate_left
    · -- the slice is nil
      obtain ⟨hrs, hz0, hcz⟩ := hBs.nil hsp
      have hls : ls = 0 := by rw [d5, hrs]; rfl
      have hsv0 : ∀ x, a.eval s = x → x = .slice none 0 0 := by
        intro x hx
        rw [← hx, hsv]
        have hc : cs.getD (ν ns).2 = 0 := by
          rw [d6]
          cases hq : bs.cap with
          | none => exact hz0
          | some c => exact hcz c hq
        cases hq : (ν ns).1.spot with
        | none => exact absurd hq hsp
        | some q => simp [Cell.conc, hq, hls, hc]
      have hbl : bs.rows ++ bx.rows.take lx = bx.rows.take lx := by rw [hrs]; rfl
      have hll : ls + lx = lx := by rw [hls, Nat.zero_add]
      by_cases hl0 : lx = 0
      · exact hnilnil d hds _ (hR.hr.kill hbs) hkn (fun m hm => bd_updH _ _ _ hm) hsv0 hl0 _ (by show bs.rows ++ bx.rows.take lx = []; rw [hbl, hl0]; rfl) rfl (by rw [hll]) (updH_append _ _ _)
      · refine hnilnew d hds _ (hR.hr.kill hbs) hkn (fun m hm => bd_updH _ _ _ hm) hsv0 hl0 (by rw [hll] at d8; exact d8) (by rw [hll]) ?_
        refine (updH_append _ _ _).trans ?_
        show updH _ [((d, st.gen), ⟨bs.rows ++ bx.rows.take lx, _, _, _, _⟩)] = _
        rw [hbl]
    obtain ⟨o1, o3, o4, o5, o6, arr, o7, o8⟩ := hBs.own d3 hsp
    have haddr := own_addr hBs d3 hsp
    have hsconc : a.eval s = .slice (some ⟨(ν ns).1.block, 0, none⟩) ls (ν ns).2 := by
      rw [hsv]
      have hc : cs.getD (ν ns).2 = (ν ns).2 := by
        cases hcs : cs with
        | none => rfl
        | some c => rw [Option.getD_some]; exact (o6 c (by rw [← d6, hcs])).symm
      simp only [Cell.conc, hc, Nat.zero_mul, hsp, Option.isSome_none, Bool.false_eq_true, if_false]
      rw [haddr]
      rfl
    have hxs : arr.toList.take (ls * te.sz) = bs.rows.flatten.map (·.conc ν) := by
      apply List.ext_getElem?
      intro k
      by_cases hk : k < ls * te.sz
      · rw [List.getElem?_take, if_pos hk, Array.getElem?_toList]
        refine flat_eq hws hBs.width (fun k => arr[k]?) (fun row j r c hr hc => ?_) k (by rw [← d5, d2]; exact hk)
        have := (hBs.read row r j c hr hc).2.1
        rw [haddr, add_at] at this
        unfold World.cell? at this
        rw [o7] at this
        exact this
      · rw [List.getElem?_take, if_neg hk, List.getElem?_eq_none (by rw [List.length_map, flat_len _ hBs.width, d2, ← d5]; omega)]
    have hown : w.ownsRow base el te.sz (.slice (some ⟨(ν ns).1.block, 0, none⟩) ls (ν ns).2) ls (bs.rows.flatten.map (·.conc ν)) :=
      ⟨by rw [List.length_map, flat_len _ hBs.width, d2, d5], .inr ⟨_, _, arr, rfl, o3, by rw [← d4]; exact o7, by omega, o5, by rw [o8, d2], hxs⟩⟩
    have hrl : (bs.rows ++ bx.rows.take lx).length = ls + lx := by rw [List.length_append, List.length_take]; omega
    rcases hxbase with ⟨hx1, hxsp⟩ | ⟨hx1, hl0⟩
    · obtain ⟨v', w', r1, r2, r3, r4, r5⟩ := run_append_own_at (P := P) w base t o.type el inf z te.sz te.by_ hu g1 g4 g2 g3 hzs c4 _ ls _ hown
        (ν nx).1 lx (cx.getD (ν nx).2) ((bx.rows.take lx).flatten.map (·.conc ν)) (by rw [n1, c2]) n2 (one_conc _ _) (hmaxs _ d8) d8 hR.hr.base_le
      obtain ⟨rl, hv | ⟨g, cap, cur, rfl, hb, hh, hlc, hcm, hcs, hct⟩⟩ := r2
      · exact absurd (r4.1 hv.1).1 (by simp)
      have hA := hR.hr.appended (n := (d, st.gen)) (nb := ⟨bs.rows ++ bx.rows.take lx, te.sz, el, true, none⟩) (src := some (ns, bs)) (row := some (ν ns).1.block) hnone rfl rfl rfl
        (fun r hr => by
          rcases List.mem_append.1 hr with hr | hr
          · rw [← d2]; exact hBs.width r hr
          · rw [← c2]; exact take_width hBx.width r hr) c4 (fun r hr => by
          rcases List.mem_append.1 hr with hr | hr
          · exact rows_ok hBs (lx := bs.rows.length) r (by rw [List.take_length]; exact hr)
          · exact rows_ok hBx r hr) (fun m b h => by injection h with h; injection h with h1 h2; subst h1 h2; exact ⟨hbs, d3, hsp⟩) rfl (by simpa [Value.ownBlock] using r3) hh hcs hcm (by rw [hrl]; exact hlc)
        (by rw [hrl, List.flatten_append, List.map_append]; exact hct) (by
          simp only [Value.ownBlock] at r5
          rcases r5 with r5 | r5
          · exact .inl r5
          · injection r5 with r5
            replace r5 : g = w.heap.size := r5
            exact .inr (by omega))
      refine ⟨_, w', updE ν (d, st.gen) (⟨g, 0, none⟩, cap), .inl (hrun0 _ _ _ _ hsconc hx1 r1), ?_⟩
      refine hR.value (e := ⟨_, _, _⟩) hd (fun m hm => updE_other _ _ _ _ (fun he => ?_)) ?_ hA
      · subst he; unfold bd at hm; rw [hnone] at hm; cases hm
      · refine .inr ⟨?_, ?_⟩
        · show (updH st.heap _ (d, st.gen)).isSome = true
          simp [updH]
        · simp [AV.conc, Cell.conc, updE_same, Addr.add]
    · -- nothing is appended
      subst hl0
      have hle : ls ≤ (ν ns).2 := by rw [d5]; exact o4
      have hA := hR.hr.appended (w' := w) (n := (d, st.gen)) (nb := ⟨bs.rows ++ bx.rows.take 0, te.sz, el, true, none⟩) (src := some (ns, bs)) (row := some (ν ns).1.block) (g := (ν ns).1.block) (cap := (ν ns).2) (cur := arr) hnone rfl rfl rfl
        (fun r hr => by
          rcases List.mem_append.1 hr with hr | hr
          · rw [← d2]; exact hBs.width r hr
          · rw [← c2]; exact take_width hBx.width r hr) c4 (fun r hr => by
          rcases List.mem_append.1 hr with hr | hr
          · exact rows_ok hBs (lx := bs.rows.length) r (by rw [List.take_length]; exact hr)
          · exact rows_ok hBx r hr) (fun m b h => by injection h with h; injection h with h1 h2; subst h1 h2; exact ⟨hbs, d3, hsp⟩) rfl ⟨rfl, rfl, rfl, Nat.le_refl _, fun _ _ _ => rfl⟩ (by rw [← d4]; exact o7) (by rw [o8, d2]) o5 (by rw [hrl]; simpa using hle)
        (by rw [hrl]; simp only [List.take_zero, List.append_nil, Nat.add_zero]; exact hxs) (.inl rfl)
      refine ⟨.slice (some ⟨(ν ns).1.block, 0, none⟩) ls (ν ns).2, w, updE ν (d, st.gen) (⟨(ν ns).1.block, 0, none⟩, (ν ns).2), .inl (hrun0 _ _ _ _ hsconc hx1 ?_), ?_⟩
      · simp [Builtin.append_, run_underlying hu, run_size g1 g2, Builtin.lenOf, Builtin.firstCells, storeCells, hle]
      refine hR.value (e := ⟨_, _, _⟩) hd (fun m hm => updE_other _ _ _ _ (fun he => ?_)) ?_ hA
      · subst he; unfold bd at hm; rw [hnone] at hm; cases hm
      · refine .inr ⟨?_, ?_⟩
        · show (updH st.heap _ (d, st.gen)).isSome = true
          simp [updH]
        · simp [AV.conc, Cell.conc, updE_same, Addr.add]
  · cases he
/-- The call of f at these values comes to a value and a world of R. -/
def CallSem (P : Program) (f : FuncId) (args : Array Value) (w : World) (R : Value → World → Prop) : Prop :=
  (∃ fn, P.funcs[f]? = some fn ∧ (fn.name == "runtime.NumGoroutine") = false ∧ fn.body.isSome = true ∧ Calls P f args w (fun e w' => ∃ v, e = .returned v ∧ R v w')) ∨
  (∃ v w', (callFunc f args).run P w = .ok (.value v) w' ∧ R v w')
/-- What comes of a call: the value, the new blocks; nothing that was there has turned. -/
def CallPost (h : Nm → Option Blk) (ν : Env) (w : World) (r : AV) (nb : List (Nm × Blk)) (v : Value) (w' : World) : Prop :=
  ∃ ν', (∀ n, bd h n → ν' n = ν n) ∧ Below w.heap.size w w' ∧ RV ν' (bd (updH h nb)) v r ∧
    (∀ n blk, updH none1 nb n = some blk → blk.own = true ∧ BlkRel w.heap.size w' ν' (bd (updH h nb)) n blk) ∧
    (∀ n n' blk blk', updH none1 nb n = some blk → updH none1 nb n' = some blk' → (ν' n).1.spot = none → (ν' n').1.spot = none → n ≠ n' → (ν' n).1.block ≠ (ν' n').1.block)
/-- New names: they differ, and none is of a round to come. -/
def MkOK (mk : Nat → Nm) (gen : Nat) : Prop := (∀ i j, mk i = mk j → i = j) ∧ ∀ j, (mk j).2 ≤ gen
theorem mkNames_ok (d g : Nat) : MkOK (mkNames d g) g := ⟨fun i j h => by simp only [mkNames, Prod.mk.injEq, and_true] at h; omega, fun j => Nat.le_refl _⟩
/-- What C says of a function is true of the program. -/
def COK1 (P : Program) (C : Orc) (f : FuncId) : Prop := ∀ args bs mk r nb, C f args bs mk r nb → ∀ (h : Nm → Option Blk) (base : Nat) (ν : Env) (w : World) (w0 : Anch) (gen : Nat), MkOK mk gen → HRel base w0 ν h gen w →
  (namesOf args).map h = bs.map some → (∀ v ∈ args, v.ok (bd h)) → (∀ p ∈ nb, h p.1 = none) →
  CallSem P f (args.map (AV.conc ν)).toArray w (CallPost h ν w r nb)
def COK (P : Program) (C : Orc) : Prop := ∀ f, COK1 P C f ∧ ∀ args bs mk r nb, C f args bs mk r nb → ∀ p ∈ nb, ∃ j, p.1 = mk j
theorem BlkRel.to_base {B : Nat} (hb : BlkRel B w ν D n blk) (ho : blk.own = true) (hB : base ≤ B) : BlkRel base w ν D n blk :=
  ⟨hb.width, fun row r j c hr hc => let ⟨h1, h2, _⟩ := hb.read row r j c hr hc; ⟨h1, h2, fun he => by rw [ho] at he; cases he⟩, hb.nil,
   fun ho hs => let ⟨h1, h3, h4⟩ := hb.own ho hs; ⟨h1, Nat.le_trans hB h3, h4⟩⟩
theorem blksOf_spec : ∀ (l : List Nm) (bs : List Blk), st.blksOf l = some bs → l.map st.heap = bs.map some
  | [], bs, h => by
    simp only [St.blksOf, Option.some.injEq] at h
    subst h; rfl
  | n :: l, bs, h => by
    unfold St.blksOf at h
    split at h
    · rename_i b bs' hb hbs
      injection h with h
      subst h
      simp only [List.map_cons, hb, blksOf_spec l bs' hbs]
    · cases h
theorem mem_updH {l : List (Nm × Blk)} {n : Nm} {blk : Blk} (h : updH none1 l n = some blk) : (n, blk) ∈ l := by
  induction l with
  | nil => cases h
  | cons p l ih =>
    obtain ⟨m, b⟩ := p
    replace h : (if n = m then some b else updH none1 l n) = some blk := h
    split at h
    · rename_i he
      injection h with h
      subst he h
      exact List.mem_cons_self ..
    · exact List.mem_cons_of_mem _ (ih h)
/-- The fences of the walk: every function, no bound on the depth; in a round, or not. -/
abbrev fen (ro : Option Nat) : Fence := { Fence.wide with round := ro }
theorem calls_fen {ro : Option Nat} {rm : Nat} {f : FuncId} {args : Array Value} {R : Ending → World → Prop} (h : Calls P f args w R) : CallsIn (fen ro) rm P f args w R := (callsIn_wide (n := rm)).2 h
theorem wpIn_of_run {ro : Option Nat} {rm : Nat} {K : Act → World → Prop} {Q : Exit → Act → World → Prop} (hdf : ∀ c, o.op ≠ .defer c) (h : o.uponIn (fen ro) rm P a K Q ((execOp a.eval o).run P w)) : o.wpIn (fen ro) rm P a w K Q := by
  refine ⟨fun _ _ => trivial, ?_⟩
  have : o.semAt (fen ro).round a.eval = execOp a.eval o := by
    cases ro with
    | none => rfl
    | some l => exact Oper.semAt_some l _ _ hdf
  rw [this]
  exact h
theorem Out.wp {ro : Option Nat} {rm : Nat} (hO : Out P base w0 N st a w o e) (hdf : ∀ c, o.op ≠ .defer c) {K : Act → World → Prop} {Q : Exit → Act → World → Prop} (hK : ∀ ν' a' w', Rel base w0 N ν' (st.app o.dst e) a' w' → K a' w') : o.wpIn (fen ro) rm P a w K Q := by
  obtain ⟨v, w', ν', hr | ⟨hd, hr⟩, hR⟩ := hO
  · refine wpIn_of_run hdf ?_
    rw [hr]
    exact hK _ _ _ hR
  · refine wpIn_of_run hdf ?_
    rw [hr]
    show K (a.put o.dst undef) w'
    refine hK ν' _ _ ?_
    rw [hd] at hR ⊢
    exact hR
theorem op_call {ro : Option Nat} {rm : Nat} (hR : Rel base w0 N ν st a w) (hd : ∀ s, o.dst = some s → s < N) (hC : COK P C) {x : Operand} {args : Array Operand} {tys : Array TypeId} (ho : o.op = .call { callee := .value x, args := args, argTypes := tys }) {f : FuncId} {caps : List Cell} (hx : st.ev x = .fn f caps)
    {vs : List AV} (hvs : evArgs st args.toList = some vs) (he : callR C f o.dst st (vs ++ caps.map .c) e) {K : Act → World → Prop} {Q : Exit → Act → World → Prop} (hK : ∀ ν' a' w', Rel base w0 N ν' (st.app o.dst e) a' w' → K a' w') : o.wpIn (fen ro) rm P a w K Q := by
  obtain ⟨h1, h2⟩ := evArgs_arr hR hvs
  obtain ⟨h3, h4⟩ := hR.ev_some hx (by simp)
  obtain ⟨d, bs, r, nb, hdst, hbs, hr, hfree, he⟩ := he
  subst he
  have hok : ∀ v ∈ vs ++ caps.map .c, v.ok (bd st.heap) := by
    intro v hv
    rcases List.mem_append.1 hv with hv | hv
    · exact h1 v hv
    · obtain ⟨c, hc, rfl⟩ := List.mem_map.1 hv
      exact h3 c hc
  have hnone : ∀ p ∈ nb, st.heap p.1 = none := fun p hp => by
    have := List.all_eq_true.1 hfree p hp
    simpa using this
  have hcall := (hC f).1 _ _ _ _ _ hr st.heap base ν w w0 st.gen (mkNames_ok _ _) hR.hr (blksOf_spec _ _ hbs) hok hnone
  have hnames := (hC f).2 _ _ _ _ _ hr
  have hargs : (a.eval <$> args) ++ concs ν caps = ((vs ++ caps.map AV.c).map (AV.conc ν)).toArray := by
    show args.map a.eval ++ _ = _
    rw [h2, List.map_append, List.map_map]
    unfold concs
    rw [List.append_toArray]
    rfl
  have hrun : (execOp a.eval o).run P w = (callFunc f ((vs ++ caps.map AV.c).map (AV.conc ν)).toArray).run P w := by
    rw [← hargs]
    simp only [execOp, ho, resolve, h4, AV.conc, Deferred.ofValue, invoke, Sem.run_bind, Sem.run_pure, Result.andThen, Array.empty_append]
    rfl
  have hpost : ∀ v w', CallPost st.heap ν w r nb v w' → K (a.put o.dst v) w' := by
    rintro v w' ⟨ν', k1, k2, k3, k4, k5⟩
    refine hK ν' _ w' (hR.value (e := ⟨r, nb, _⟩) hd k1 k3 (hR.hr.grow k2 k1 (fun n blk hn => ?_) (fun n blk hn => ?_) (fun n n' b b' hn hn' _ _ hs hs' hne => k5 n n' b b' hn hn' hs hs' hne)))
    · have hm := mem_updH hn
      obtain ⟨j, hj⟩ := hnames _ hm
      exact ⟨hnone _ hm, by rw [show n = _ from hj]; rfl⟩
    · obtain ⟨q1, q2⟩ := k4 n blk hn
      exact ⟨q2.to_base q1 hR.hr.base_le, fun _ hs => (q2.own q1 hs).2.1⟩
  refine wpIn_of_run (fun c hc => by rw [ho] at hc; cases hc) ?_
  rw [hrun]
  rcases hcall with ⟨fn, c1, c2, c3, c4⟩ | ⟨v, w', c1, c2⟩
  · have henter : (callFunc f ((vs ++ caps.map AV.c).map (AV.conc ν)).toArray).run P w = .ok (.enter f ((vs ++ caps.map AV.c).map (AV.conc ν)).toArray) w := by
      have hne : fn.body.isNone = false := by cases hb : fn.body <;> simp_all
      unfold callFunc
      simp only [Sem.run_bind, program, Sem.run, Result.andThen, c1, c2, hne, Bool.false_eq_true, if_false]
      rfl
    rw [henter, Oper.uponIn_enter]
    refine ⟨fun h => (by cases h), (calls_fen c4).mono fun e w'' hh => ?_⟩
    obtain ⟨v, rfl, hh⟩ := hh
    exact hpost v w'' hh
  · rw [c1]
    exact hpost v w' c2
end
end Go.AbsK

namespace Go.AbsK
open Go.RowKit

section
variable {P : Program} {tab : Tab} {EQ : TypeId → Option Shp} {C : Orc} {base : Nat} {w0 : Anch} {N : Nat} {ν : Env} {st : St} {a : Act} {w : World} {o : Oper} {e : Eff} {h : Nm → Option Blk} {gen : Nat}
theorem caps_map : ∀ (vs : List AV), (vs.all (fun v => match v with | .c _ => true | _ => false)) = true → vs = (vs.filterMap fun v => match v with | .c x => some x | _ => none).map AV.c
  | [], _ => rfl
  | v :: vs, h => by
    rw [List.all_cons, Bool.and_eq_true] at h
    obtain ⟨h1, h2⟩ := h
    cases v <;> simp only [Bool.false_eq_true] at h1
    simp only [List.filterMap_cons, List.map_cons]
    exact congrArg _ (caps_map vs h2)
theorem evOp_sound0 {ro : Option Nat} {rm : Nat} (hT : TabOK P tab) (hE : EqOK P EQ) (hR : Rel base w0 N ν st a w) (hd : ∀ s, o.dst = some s → s < N) (he : evOp tab EQ st o = some e)
    {K : Act → World → Prop} {Q : Exit → Act → World → Prop} (hK : ∀ ν' a' w', Rel base w0 N ν' (st.app o.dst e) a' w' → K a' w') : o.wpIn (fen ro) rm P a w K Q := by
  have hdf : ∀ c, o.op ≠ .defer c := by
    intro c hc
    unfold evOp at he
    simp only [hc] at he
    cases he
  unfold evOp at he
  split at he
  · rename_i x ho
    injection he with he
    exact (op_move hR hd (.inl ho) he.symm).wp hdf hK
  · rename_i x ho
    injection he with he
    exact (op_move hR hd (.inr ho) he.symm).wp hdf hK
  · rename_i c x y ho
    split at he
    · rename_i t ht
      injection he with he
      exact (op_pick hR hd ho ht he.symm).wp hdf hK
    · cases he
  · rename_i t ho
    split at he
    · rename_i ti hti
      exact (op_alloc hR hd hT ho hti he).wp hdf hK
    · cases he
  · rename_i t x ho
    split at he
    · rename_i cs hcs
      exact (op_box hR hd ho hcs he).wp hdf hK
    · cases he
  · rename_i t parts ho
    split at he
    · rename_i ti ps hti hps
      split at he
      · rename_i fs hfs
        obtain ⟨cs, hcs, rfl⟩ := Option.map_eq_some_iff.1 he
        exact (op_build hR hd hT ho hti hps (.inl ⟨fs, hfs, rfl⟩) hcs rfl).wp hdf hK
      · rename_i l esz ea hfs
        obtain ⟨cs, hcs, rfl⟩ := Option.map_eq_some_iff.1 he
        exact (op_build hR hd hT ho hti hps (.inr ⟨l, esz, ea, hfs, rfl⟩) hcs rfl).wp hdf hK
      · cases he
    · cases he
  · rename_i t len parts ho
    split at he
    · rename_i ti ps hti hps
      split at he
      · rename_i el hel
        split at he
        · rename_i te hte
          split at he
          · rename_i hc
            split at he
            · rename_i rows hrows
              exact (op_buildSlice hR hd hT ho hti hel hte hps hc.1 hc.2 hrows he).wp hdf hK
            · cases he
          · cases he
        · cases he
      · cases he
    · cases he
  · rename_i t x ho
    split at he
    · rename_i ti n row wd col hti hx
      split at he
      · rename_i blk hblk
        split at he
        · rename_i hw
          split at he
          · rename_i r hr
            obtain ⟨v, hv, rfl⟩ := Option.map_eq_some_iff.1 he
            subst hw
            exact (op_load hR hd hT ho hti hx hblk hr hv rfl).wp hdf hK
          · cases he
        · cases he
      · cases he
    · cases he
  · rename_i t x y ho
    split at he
    · rename_i ti n row wd col cs hdst hti hx hy
      split at he
      · rename_i blk hblk
        split at he
        · rename_i hc
          obtain ⟨rfl, c2, c3⟩ := hc
          split at he
          · rename_i r hr
            split at he
            · rename_i hl
              injection he with he
              exact (op_store hR hT ho hdst hti hx hy hblk c2 c3 hr hl he.symm).wp hdf hK
            · cases he
          · cases he
        · cases he
      · cases he
    · cases he
  · rename_i s x f ho
    split at he
    · rename_i ti n row wd col hti hx
      split at he
      · rename_i fs hfs
        split at he
        · rename_i off sz ag hf
          injection he with he
          exact (op_fieldAddr hR hd hT ho hti hfs hf hx he.symm).wp hdf hK
        · cases he
      · cases he
    · cases he
  · rename_i t x f ho
    split at he
    · rename_i ti l hti hx
      split at he
      · rename_i fs hfs
        split at he
        · rename_i off sz ag hf
          obtain ⟨v, hv, rfl⟩ := Option.map_eq_some_iff.1 he
          exact (op_field hR hd hT ho hti hfs hf hx hv rfl).wp hdf hK
        · cases he
      · cases he
    · cases he
  · rename_i t x ix ho
    split at he
    · rename_i ti n row wd col k v hti hx hi
      split at he
      · rename_i len esz ea hfs
        split at he
        · rename_i h0
          injection he with he
          exact (op_indexAddr_array hR hd hT ho hti hfs hx hi h0 he.symm).wp hdf hK
        · cases he
      · cases he
    · rename_i ti n row wd len cap k v hti hx hi
      split at he
      · rename_i el hel
        split at he
        · rename_i te hte
          split at he
          · rename_i blk hblk
            split at he
            · rename_i h0
              obtain ⟨rfl, h0⟩ := h0
              injection he with he
              exact (op_indexAddr_slice hR hd hT ho hti hel hte hx hi hblk h0 he.symm).wp hdf hK
            · cases he
          · cases he
        · cases he
      · cases he
    · cases he
  · rename_i t x ix ho
    split at he
    · rename_i ti l k v hti hx hi
      split at he
      · rename_i len esz ea hfs
        split at he
        · rename_i h0
          obtain ⟨v', hv', rfl⟩ := Option.map_eq_some_iff.1 he
          exact (op_index hR hd hT ho hti hfs hx hi h0 hv' rfl).wp hdf hK
        · cases he
      · cases he
    · rename_i ti s k v hti hx hi
      split at he
      · rename_i hfs
        obtain ⟨n, hn, rfl⟩ := Option.map_eq_some_iff.1 he
        exact (op_indexStr hR hd hT ho hti hfs hx hi hn rfl).wp hdf hK
      · cases he
    · cases he
  · rename_i op t x y yt ho
    obtain ⟨v, hv, rfl⟩ := Option.map_eq_some_iff.1 he
    exact (op_bin hR hd hT hE ho hv rfl).wp hdf hK
  · rename_i op t x ho
    split at he
    · rename_i k n hx
      injection he with he
      exact (op_unOp hR hd ho hx (.inl ⟨k, n, rfl, rfl, rfl⟩) he.symm).wp hdf hK
    · rename_i k n hx
      injection he with he
      exact (op_unOp hR hd ho hx (.inr (.inl ⟨k, n, rfl, rfl, rfl⟩)) he.symm).wp hdf hK
    · rename_i b hx
      injection he with he
      exact (op_unOp hR hd ho hx (.inr (.inr ⟨b, rfl, rfl, rfl⟩)) he.symm).wp hdf hK
    · cases he
  · rename_i s d x ho
    split at he
    · rename_i ts td k n hts htd hx
      split at he
      · rename_i k' hk
        injection he with he
        exact (op_convert hR hd hT ho hts htd hk hx he.symm).wp hdf hK
      · cases he
    · cases he
  · rename_i x j ho
    split at he
    · rename_i p q hx
      injection he with he
      exact (op_extract hR hd ho hx (.inl ⟨rfl, rfl⟩) he.symm).wp hdf hK
    · rename_i p q hx
      injection he with he
      exact (op_extract hR hd ho hx (.inr ⟨rfl, rfl⟩) he.symm).wp hdf hK
    · cases he
  · rename_i t l c ho
    split at he
    · rename_i ti n n' hti hl hc
      split at he
      · rename_i el hel
        split at he
        · rename_i te hte
          split at he
          · rename_i h0
            obtain ⟨rfl, h1, h2, h3, h4⟩ := h0
            exact (op_makeSlice hR hd hT ho hti hel hte hl hc h1 h2 h3 h4 he).wp hdf hK
          · cases he
        · cases he
      · cases he
    · cases he
  · rename_i t x lo ho
    split at he
    · rename_i ti n row wd len cp v hti hx hi
      split at he
      · rename_i el hel
        split at he
        · rename_i te hte
          split at he
          · rename_i h0
            obtain ⟨rfl, h0⟩ := h0
            injection he with he
            exact (op_slice hR hd hT ho hti hel hte hx hi h0 he.symm).wp hdf hK
          · cases he
        · cases he
      · cases he
    · cases he
  · rename_i f first caps ho
    split at he
    · rename_i hf
      split at he
      · rename_i vs hvs
        split at he
        · rename_i hall
          injection he with he
          exact (op_makeFunc hR hd ho hf hvs (caps_map vs hall) he.symm).wp hdf hK
        · cases he
      · cases he
    · cases he
  · rename_i args tys ho
    split at he
    · rename_i s x t t' hargs htys
      split at he
      · rename_i htt
        subst htt
        exact (op_append hR hd hT ho hargs htys he).wp hdf hK
      · cases he
    · cases he
  · rename_i b args tys hnot ho
    split at he
    · rename_i vs hvs
      split at he
      · rename_i t htys
        split at he
        · rename_i ti hti
          split at he
          · rename_i el hel
            obtain ⟨v, hv, rfl⟩ := Option.map_eq_some_iff.1 he
            exact (op_builtin hR hd hT ho hvs (fun _ => ⟨t, ti, el, htys, hti, hel⟩) hv rfl).wp hdf hK
          · cases he
        · cases he
      · cases he
      · rename_i hne _
        obtain ⟨v, hv, rfl⟩ := Option.map_eq_some_iff.1 he
        exact (op_builtin hR hd hT ho hvs (fun hb => (by subst hb; exact absurd rfl hne)) hv rfl).wp hdf hK
    · cases he
  · cases he
theorem evOp_sound {ro : Option Nat} {rm : Nat} (hT : TabOK P tab) (hE : EqOK P EQ) (hC : COK P C) (hR : Rel base w0 N ν st a w) (hd : ∀ s, o.dst = some s → s < N) (he : EvR tab EQ C st o e)
    {K : Act → World → Prop} {Q : Exit → Act → World → Prop} (hK : ∀ ν' a' w', Rel base w0 N ν' (st.app o.dst e) a' w' → K a' w') : o.wpIn (fen ro) rm P a w K Q := by
  unfold EvR at he
  split at he
  · rename_i x args tys ho
    split at he
    · rename_i f caps vs hx hvs
      exact op_call hR hd hC ho hx hvs he hK
    · exact he.elim
  · exact evOp_sound0 hT hE hR hd he hK
theorem ev_congr {st' : St} {ops : Array Oper} (hs : ∀ t ∈ tmpsOf ops o, st.slots t = st'.slots t) {x : Operand} (hx : x ∈ o.op.operands) : st.ev x = st'.ev x := by
  cases x with
  | tmp t =>
    refine hs t ?_
    unfold tmpsOf Oper.looksAt
    refine List.mem_append.2 (.inl (List.mem_filterMap.2 ⟨.tmp t, by simpa using hx, rfl⟩))
  | _ => rfl
theorem evArgs_congr {st' : St} : ∀ {l : List Operand}, (∀ x ∈ l, st.ev x = st'.ev x) → evArgs st l = evArgs st' l
  | [], _ => rfl
  | x :: l, h => by
    unfold evArgs
    rw [h x (List.mem_cons_self ..), evArgs_congr (l := l) (fun y hy => h y (List.mem_cons_of_mem _ hy))]
theorem partsOf_congr {st' : St} : ∀ {l : List (Nat × Operand)}, (∀ x ∈ l, st.ev x.2 = st'.ev x.2) → partsOf st l = partsOf st' l
  | [], _ => rfl
  | (i, x) :: l, h => by
    unfold partsOf
    rw [h (i, x) (List.mem_cons_self ..), partsOf_congr (l := l) (fun y hy => h y (List.mem_cons_of_mem _ hy))]
theorem blksOf_congr {st' : St} : ∀ {l : List Nm}, (∀ n ∈ l, st.heap n = st'.heap n) → st.blksOf l = st'.blksOf l
  | [], _ => rfl
  | n :: l, h => by
    unfold St.blksOf
    rw [h n (List.mem_cons_self ..), blksOf_congr (l := l) (fun y hy => h y (List.mem_cons_of_mem _ hy))]
theorem newA_congr {st' : St} (hg : st.gen = st'.gen) {d : Option Tmp} {mk : Nm → AV × Blk} (hq : newA st d mk = some e) (hh : ∀ n ∈ e.rd, st.heap n = st'.heap n) : newA st' d mk = some e := by
  obtain ⟨s, rfl, hn, rfl⟩ := newA_spec hq
  have := hh (s, st.gen) (List.mem_singleton.2 rfl)
  unfold newA
  simp only [← hg, ← this, hn, Option.isNone_none, if_true]
theorem appendA_congr {st' : St} (hg : st.gen = st'.gen) {t : TypeId} {d : Option Tmp} {s x : AV} (hq : appendA tab t st d s x = some e) (hh : ∀ n ∈ e.rd, st.heap n = st'.heap n) : appendA tab t st' d s x = some e := by
  unfold appendA at hq ⊢
  split at hq
  · cases hq
  split at hq
  rotate_left
  · cases hq
  split at hq
  · cases hq
  split at hq
  · exact hq
  rotate_left
  · cases hq
  rename_i nx wx lx cx
  split at hq
  · cases hq
  rename_i bx hbx
  split at hq
  rotate_left
  · cases hq
  rename_i hc
  split at hq
  · split at hq
    rotate_left
    · cases hq
    rename_i hby
    obtain ⟨f, hf, rfl⟩ := Option.map_eq_some_iff.1 hq
    have h1 : st'.heap nx = some bx := by rw [← hh nx (List.mem_cons_self ..), hbx]
    have h2 := newA_congr hg hf (fun n hn => hh n (List.mem_cons_of_mem _ hn))
    simp only [h1, if_pos hc, if_pos hby, h2, Option.map_some]
  · rename_i ns ws ls cs
    split at hq
    · cases hq
    rename_i bs hbs
    split at hq
    rotate_left
    · cases hq
    rename_i hc2
    obtain ⟨f, hf, rfl⟩ := Option.map_eq_some_iff.1 hq
    have h1 : st'.heap nx = some bx := by rw [← hh nx (List.mem_cons_self ..), hbx]
    have h3 : st'.heap ns = some bs := by rw [← hh ns (List.mem_cons_of_mem _ (List.mem_cons_self ..)), hbs]
    have h2 := newA_congr hg hf (fun n hn => hh n (List.mem_cons_of_mem _ (List.mem_cons_of_mem _ hn)))
    simp only [h1, h3, if_pos hc, if_pos hc2, h2, Option.map_some]
  · cases hq
theorem callR_congr {st' : St} (hg : st.gen = st'.gen) {f : FuncId} {d : Option Tmp} {args : List AV} (hq : callR C f d st args e) (hh : ∀ n ∈ e.rd, st.heap n = st'.heap n) : callR C f d st' args e := by
  obtain ⟨d', bs, r, nb, hd, hbs, hr, hf, he⟩ := hq
  subst he
  refine ⟨d', bs, r, nb, hd, ?_, by rw [← hg]; exact hr, ?_, rfl⟩
  · rw [← hbs]; exact (blksOf_congr (fun n hn => hh n (List.mem_append.2 (.inl hn)))).symm
  · rw [← hf]
    rw [Bool.eq_iff_iff, List.all_eq_true, List.all_eq_true]
    constructor
    · intro h p hp
      rw [hh p.1 (List.mem_append.2 (.inr (List.mem_map.2 ⟨p, hp, rfl⟩)))]
      exact h p hp
    · intro h p hp
      rw [← hh p.1 (List.mem_append.2 (.inr (List.mem_map.2 ⟨p, hp, rfl⟩)))]
      exact h p hp
theorem evOp_congr0 {st' : St} {ops : Array Oper} (hs : ∀ t ∈ tmpsOf ops o, st.slots t = st'.slots t) (hg : st.gen = st'.gen) (he : evOp tab EQ st o = some e) (hh : ∀ n ∈ e.rd, st.heap n = st'.heap n) : evOp tab EQ st' o = some e := by
  have hev : ∀ x, x ∈ o.op.operands → st'.ev x = st.ev x := fun x hx => (ev_congr hs hx).symm
  unfold evOp at he ⊢
  split at he
  · rename_i x ho
    rw [hev x (by rw [ho]; simp [Op.operands])]; exact he
  · rename_i x ho
    rw [hev x (by rw [ho]; simp [Op.operands])]; exact he
  · rename_i c x y ho
    rw [hev c (by rw [ho]; simp [Op.operands]), hev x (by rw [ho]; simp [Op.operands]), hev y (by rw [ho]; simp [Op.operands])]; exact he
  · rename_i t ho
    split at he
    · exact newA_congr hg he hh
    · cases he
  · rename_i t x ho
    rw [hev x (by rw [ho]; simp [Op.operands])]
    split at he
    · exact newA_congr hg he hh
    · cases he
  · rename_i t parts ho
    rw [← partsOf_congr (st := st) (fun p hp => (hev p.2 (by rw [ho]; simp only [Op.operands, List.mem_toArray, List.mem_map]; exact ⟨p, hp, rfl⟩)).symm)]
    exact he
  · rename_i t len parts ho
    rw [← partsOf_congr (st := st) (fun p hp => (hev p.2 (by rw [ho]; simp only [Op.operands, List.mem_toArray, List.mem_map]; exact ⟨p, hp, rfl⟩)).symm)]
    split at he
    · split at he
      · split at he
        · split at he
          · rename_i hc
            simp only [if_pos hc]
            split at he
            · exact newA_congr hg he hh
            · cases he
          · cases he
        · cases he
      · cases he
    · cases he
  · rename_i t x ho
    rw [hev x (by rw [ho]; simp [Op.operands])]
    split at he
    · split at he
      · rename_i blk hblk
        split at he
        · rename_i hw
          split at he
          · rename_i r hr
            obtain ⟨v, hv, rfl⟩ := Option.map_eq_some_iff.1 he
            have := hh _ (List.mem_singleton.2 rfl)
            simp only [← this, hblk, if_pos hw, hr, hv, Option.map_some]
          · cases he
        · cases he
      · cases he
    · cases he
  · rename_i t x y ho
    rw [hev x (by rw [ho]; simp [Op.operands]), hev y (by rw [ho]; simp [Op.operands])]
    split at he
    · split at he
      · rename_i blk hblk
        split at he
        · rename_i hc
          split at he
          · rename_i r hr
            split at he
            · rename_i hl
              injection he with he
              subst he
              have := hh _ (List.mem_singleton.2 rfl)
              simp only [← this, hblk, if_pos hc, hr, if_pos hl]
            · cases he
          · cases he
        · cases he
      · cases he
    · cases he
  · rename_i s x f ho
    rw [hev x (by rw [ho]; simp [Op.operands])]; exact he
  · rename_i t x f ho
    rw [hev x (by rw [ho]; simp [Op.operands])]; exact he
  · rename_i t x ix ho
    rw [hev x (by rw [ho]; simp [Op.operands]), hev ix (by rw [ho]; simp [Op.operands])]
    split at he
    · exact he
    · split at he
      · split at he
        · rename_i te hte
          split at he
          · rename_i blk hblk
            split at he
            · rename_i hc
              injection he with he
              subst he
              have := hh _ (List.mem_singleton.2 rfl)
              simp only [← this, hblk, if_pos hc]
            · cases he
          · cases he
        · cases he
      · cases he
    · cases he
  · rename_i t x ix ho
    rw [hev x (by rw [ho]; simp [Op.operands]), hev ix (by rw [ho]; simp [Op.operands])]; exact he
  · rename_i op t x y yt ho
    rw [hev x (by rw [ho]; simp [Op.operands]), hev y (by rw [ho]; simp [Op.operands])]; exact he
  · rename_i op t x ho
    rw [hev x (by rw [ho]; simp [Op.operands])]; exact he
  · rename_i s d x ho
    rw [hev x (by rw [ho]; simp [Op.operands])]; exact he
  · rename_i x j ho
    rw [hev x (by rw [ho]; simp [Op.operands])]; exact he
  · rename_i t l c ho
    rw [hev l (by rw [ho]; simp [Op.operands]), hev c (by rw [ho]; simp [Op.operands])]
    split at he
    · split at he
      · split at he
        · split at he
          · rename_i hc
            simp only [if_pos hc]
            exact newA_congr hg he hh
          · cases he
        · cases he
      · cases he
    · cases he
  · rename_i t x lo ho
    rw [hev x (by rw [ho]; simp [Op.operands]), hev lo (by rw [ho]; simp [Op.operands])]; exact he
  · rename_i f first caps ho
    rw [← evArgs_congr (st := st) (fun x hx => (hev x (by rw [ho]; simp only [Op.operands, Array.mem_append]; exact .inr (Array.mem_toList_iff.1 hx))).symm)]
    exact he
  · rename_i args tys ho
    split at he
    · rename_i s x t t' hargs htys
      have hm : ∀ y, y ∈ args.toList → st'.ev y = st.ev y := fun y hy => hev y (by rw [ho]; simp only [Op.operands, Call.operands]; simpa using hy)
      rw [hargs] at hm
      rw [hm s (by simp), hm x (by simp)]
      split at he
      · rename_i htt
        simp only [if_pos htt]
        exact appendA_congr hg he hh
      · cases he
    · cases he
  · rename_i b args tys hnot ho
    rw [← evArgs_congr (st := st) (fun x hx => (hev x (by rw [ho]; simp only [Op.operands, Call.operands]; simpa using hx)).symm)]
    exact he
  · cases he
theorem evOp_congr {st' : St} {ops : Array Oper} (hs : ∀ t ∈ tmpsOf ops o, st.slots t = st'.slots t) (hg : st.gen = st'.gen) (he : EvR tab EQ C st o e) (hh : ∀ n ∈ e.rd, st.heap n = st'.heap n) : EvR tab EQ C st' o e := by
  have hev : ∀ x, x ∈ o.op.operands → st'.ev x = st.ev x := fun x hx => (ev_congr hs hx).symm
  unfold EvR at he ⊢
  split at he
  · rename_i x args tys ho
    rw [← evArgs_congr (st := st) (fun y hy => (hev y (by rw [ho]; simp only [Op.operands, Call.operands]; simp at hy ⊢; exact .inr hy)).symm), hev x (by rw [ho]; simp [Op.operands, Call.operands])]
    split at he
    · exact callR_congr hg he hh
    · exact he.elim
  · exact evOp_congr0 hs hg he hh
end
end Go.AbsK

namespace Go.AbsK
open Go.RowKit

section
variable {P : Program} {tab : Tab} {EQ : TypeId → Option Shp} {C : Orc} {base : Nat} {w0 : Anch} {N : Nat} {ν : Env} {st : St} {a : Act} {w : World} {o : Oper} {e : Eff} {ops : Array Oper} {Q : Exit → Act → World → Prop}
theorem guard_sound (hR : Rel base w0 N ν st a w) {g : Bool} (hg : guardA ops st o = some g) : Region.wanted o (yielded ops a.tmps) = g := by
  unfold guardA at hg
  unfold Region.wanted
  split at hg
  · rename_i h
    rw [h]
    injection hg
  · rename_i j want h
    rw [h]
    split at hg
    · rename_i d hd
      split at hg
      · rename_i t ht
        injection hg with hg
        have hs := hR.slots d
        rw [ht] at hs
        rcases hs with hs | ⟨-, hs⟩
        · cases hs
        · have hy : yielded ops a.tmps j = some t := by
            unfold yielded
            rw [hd]
            rw [Array.getD_eq_getD_getElem?] at hs
            cases hq : a.tmps[d]? with
            | none => rw [hq] at hs; simp [undef, AV.conc, Cell.conc] at hs
            | some v =>
              rw [hq] at hs
              simp only [Option.getD_some] at hs
              have hq' : a.tmps[d]? = some (.bool t) := by rw [hq, hs]; rfl
              simp [hq']
          simp only [hy]
          rw [← hg]
          cases t <;> cases want <;> rfl
      · rename_i v hv
        split at hg
        · cases hg
        · rename_i hb
          injection hg with hg
          subst hg
          have hs := hR.slots d
          rw [hv] at hs
          rcases hs with hs | ⟨-, hs⟩
          · cases hs
          · have hy : yielded ops a.tmps j = none := by
              unfold yielded
              rw [hd]
              rw [Array.getD_eq_getD_getElem?] at hs
              simp only [Option.bind_some]
              cases hq : a.tmps[d]? with
              | none => rfl
              | some u =>
                rw [hq] at hs
                simp only [Option.getD_some, AV.conc] at hs
                subst hs
                cases u <;> first | rfl | exact absurd rfl hb
            simp only [hy]
            rfl
      · cases hg
    · cases hg
theorem rel_skip (hR : Rel base w0 N ν st a w) {d : Option Tmp} (hd : ∀ s, d = some s → s < N) : Rel base w0 N ν (st.app d undE) (a.put d undef) w :=
  hR.value (e := undE) hd (fun _ _ => rfl) (.inr ⟨trivial, rfl⟩) hR.hr
def dstOK (N : Nat) (os : List Oper) : Prop := ∀ o ∈ os, ∀ s, o.dst = some s → s < N
theorem regGo_list {ro : Option Nat} {rm : Nat} (hT : TabOK P tab) (hE : EqOK P EQ) (hC : COK P C) : ∀ (os : List Oper) (st : St) (acc : List HF) (K : List HF → St → Prop) (ν : Env) (a : Act) (w : World), dstOK N os → regGo tab EQ C ops os st acc K → Rel base w0 N ν st a w →
    (∀ fps st' ν' a' w', K fps st' → Rel base w0 N ν' st' a' w' → Q .normal a' w') → wpListIn (fen ro) rm P ops Q os a w
  | [], st, acc, K, ν, a, w, _, h, hR, hK => hK acc st ν a w h hR
  | o :: os, st, acc, K, ν, a, w, hd, h, hR, hK => by
    unfold regGo opGo at h
    split at h
    · cases h
    rename_i g hg
    obtain ⟨h1, h2⟩ := h
    have hw := guard_sound hR hg
    unfold wpListIn
    have hdo := hd o (List.mem_cons_self ..)
    have hds : dstOK N os := fun o' ho' => hd o' (List.mem_cons_of_mem _ ho')
    cases g with
    | true =>
      rw [if_pos hw]
      obtain ⟨e, he, h1⟩ := h1 rfl
      exact evOp_sound hT hE hC hR hdo he (fun ν' a' w' hR' => regGo_list hT hE hC os _ _ K ν' a' w' hds h1 hR' hK)
    | false =>
      rw [if_neg (by rw [hw]; simp)]
      exact ⟨fun _ _ => trivial, regGo_list hT hE hC os _ _ K ν _ w hds (h2 rfl) (rel_skip hR hdo) hK⟩
def Chain (tab : Tab) (EQ : TypeId → Option Shp) (C : Orc) (all : Array Oper) : List Oper → St → List (Bool × Eff) → St → Prop
  | [], st, [], st' => st' = st
  | o :: os, st, s :: ss, st' => guardA all st o = some s.1 ∧ (s.1 = true → EvR tab EQ C st o s.2) ∧ (s.1 = false → s.2 = undE) ∧ Chain tab EQ C all os (st.app o.dst s.2) ss st'
  | _, _, _, _ => False
def fpsOf (all : Array Oper) : List Oper → List (Bool × Eff) → List FP
  | o :: os, s :: ss => fpOf all o s.2 :: fpsOf all os ss
  | _, _ => []
theorem zip_fps {all : Array Oper} : ∀ {os : List Oper} {ss : List (Bool × Eff)}, zipFP all os (ss.map (fun s => hfOf s.2)) = fpsOf all os ss
  | [], ss => by cases ss <;> rfl
  | _ :: _, [] => rfl
  | o :: os, s :: ss => by
    simp only [List.map_cons, zipFP, fpsOf, zip_fps (os := os) (ss := ss)]
    rfl
theorem regGo_chain : ∀ (os : List Oper) (st : St) (acc : List HF) (K : List HF → St → Prop), regGo tab EQ C ops os st acc K → ∃ ss st', Chain tab EQ C ops os st ss st' ∧ K (acc ++ ss.map (fun s => hfOf s.2)) st'
  | [], st, acc, K, h => ⟨[], st, rfl, by simpa [regGo] using h⟩
  | o :: os, st, acc, K, h => by
    unfold regGo opGo at h
    split at h
    · cases h
    rename_i g hg
    obtain ⟨h1, h2⟩ := h
    cases g with
    | true =>
      obtain ⟨e, he, h1⟩ := h1 rfl
      obtain ⟨ss, st', k1, k2⟩ := regGo_chain os _ _ K h1
      refine ⟨(true, e) :: ss, st', ⟨hg, fun _ => he, (fun h => by cases h), k1⟩, ?_⟩
      rw [List.append_assoc] at k2
      exact k2
    | false =>
      obtain ⟨ss, st', k1, k2⟩ := regGo_chain os _ _ K (h2 rfl)
      refine ⟨(false, undE) :: ss, st', ⟨hg, (fun h => by cases h), fun _ => rfl, k1⟩, ?_⟩
      rw [List.append_assoc] at k2
      exact k2
/-- The last of n writers. -/
def lastW {β : Type} (f : Nat → Option β) : Nat → Option β
  | 0 => none
  | n + 1 => match f n with
    | some b => some b
    | none => lastW f n
theorem lastW_congr {β : Type} {f g : Nat → Option β} : ∀ {n : Nat}, (∀ j, j < n → f j = g j) → lastW f n = lastW g n
  | 0, _ => rfl
  | n + 1, h => by
    unfold lastW
    rw [h n (Nat.lt_succ_self n), lastW_congr (n := n) (fun j hj => h j (by omega))]
theorem lastW_some {β : Type} {f : Nat → Option β} {k : Nat} {b : β} (hk : f k = some b) : ∀ {n : Nat}, k < n → (∀ j, k < j → j < n → f j = none) → lastW f n = some b
  | 0, h, _ => by omega
  | n + 1, h, hj => by
    unfold lastW
    by_cases hkn : k = n
    · subst hkn; rw [hk]
    · rw [hj n (by omega) (Nat.lt_succ_self n)]
      exact lastW_some hk (by omega) (fun j h1 h2 => hj j h1 (by omega))
section
variable (os : List Oper) (ss : List (Bool × Eff)) (st0 : St)
def us (i s : Nat) : Option AV := match os[i]?, ss[i]? with
  | some o, some e => if o.dst = some s then some e.2.val else none
  | _, _ => none
def uh (i : Nat) (m : Nm) : Option Blk := match ss[i]? with
  | some e => updH none1 e.2.blks m
  | none => none
/-- The state behind the operations of p, the last writer in the order of the text deciding. -/
def stP (p : Nat → Bool) : St :=
  { slots := fun s => (lastW (fun i => if p i then us os ss i s else none) os.length).getD (st0.slots s)
    heap := fun m => match lastW (fun i => if p i then uh ss i m else none) os.length with
      | some b => some b
      | none => st0.heap m
    gen := st0.gen, k := st0.k }
end

theorem St.ext' {x y : St} (h1 : ∀ s, x.slots s = y.slots s) (h2 : ∀ m, x.heap m = y.heap m) (h3 : x.gen = y.gen) (h4 : x.k = y.k := by rfl) : x = y := by
  cases x; cases y
  simp only at h1 h2 h3 h4
  simp only [St.mk.injEq]
  exact ⟨funext h1, funext h2, h3, h4⟩
theorem updH_eq (h : Nm → Option Blk) (l : List (Nm × Blk)) (m : Nm) : updH h l m = match updH none1 l m with
    | some b => some b
    | none => h m := by
  cases hq : updH none1 l m with
  | none => exact updH_none h l m hq
  | some b => exact updH_some h l m hq
/-- One operation more. -/
theorem stP_app {os : List Oper} {ss : List (Bool × Eff)} {st0 : St} {p : Nat → Bool} {i : Nat} {o : Oper} {s : Bool × Eff} (ho : os[i]? = some o) (hs : ss[i]? = some s) (hp : p i = false)
    (h1 : ∀ j d, i < j → p j = true → o.dst = some d → us os ss j d = none) (h2 : ∀ j m, i < j → p j = true → (updH none1 s.2.blks m).isSome = true → uh ss j m = none) :
    (stP os ss st0 p).app o.dst s.2 = stP os ss st0 (fun j => p j || j == i) := by
  have hi : i < os.length := (List.getElem?_eq_some_iff.1 ho).1
  refine St.ext' (fun d => ?_) (fun m => ?_) rfl
  · show (if o.dst = some d then s.2.val else _) = _
    by_cases hd : o.dst = some d
    · rw [if_pos hd]
      show _ = (lastW _ _).getD _
      rw [lastW_some (k := i) (b := s.2.val) _ hi (fun j hj _ => ?_)]
      · rfl
      · simp [us, ho, hs, hd]
      · by_cases hpj : p j = true
        · simp [hpj, h1 j d hj hpj hd]
        · have : (j == i) = false := by simp; omega
          simp [hpj, this]
    · rw [if_neg hd]
      show (lastW _ _).getD _ = (lastW _ _).getD _
      rw [lastW_congr (fun j _ => ?_)]
      by_cases hji : j = i
      · subst hji
        simp [hp, us, ho, hs, hd]
      · have : (j == i) = false := by simpa using hji
        simp [this]
  · show updH _ s.2.blks m = _
    rw [updH_eq]
    show _ = (match lastW _ _ with | some b => some b | none => st0.heap m)
    cases hq : updH none1 s.2.blks m with
    | some b =>
      rw [lastW_some (k := i) (b := b) _ hi (fun j hj _ => ?_)]
      · simp [uh, hs, hq]
      · by_cases hpj : p j = true
        · simp [hpj, h2 j m hj hpj (by rw [hq]; rfl)]
        · have : (j == i) = false := by simp; omega
          simp [hpj, this]
    | none =>
      show (match lastW _ _ with | some b => some b | none => st0.heap m) = _
      rw [lastW_congr (fun j _ => ?_)]
      by_cases hji : j = i
      · subst hji
        simp [hp, uh, hs, hq]
      · have : (j == i) = false := by simpa using hji
        simp [this]
theorem stP_congr {os : List Oper} {ss : List (Bool × Eff)} {st0 : St} {p q : Nat → Bool} (h : ∀ j, j < os.length → p j = q j) : stP os ss st0 p = stP os ss st0 q := by
  refine St.ext' (fun d => ?_) (fun m => ?_) rfl
  · show (lastW _ _).getD _ = (lastW _ _).getD _
    rw [lastW_congr (fun j hj => by rw [h j hj])]
  · show (match lastW _ _ with | some b => some b | none => st0.heap m) = (match lastW _ _ with | some b => some b | none => st0.heap m)
    rw [lastW_congr (fun j hj => by rw [h j hj])]
theorem lastW_none {β : Type} : ∀ n : Nat, lastW (fun _ => (none : Option β)) n = none
  | 0 => rfl
  | n + 1 => by unfold lastW; exact lastW_none n
theorem stP_none {os : List Oper} {ss : List (Bool × Eff)} {st0 : St} : stP os ss st0 (fun _ => false) = st0 := by
  refine St.ext' (fun d => ?_) (fun m => ?_) rfl
  · show (lastW _ _).getD _ = _
    simp [lastW_none]
  · show (match lastW _ _ with | some b => some b | none => st0.heap m) = _
    simp [lastW_none]
/-- The states of a chain are those behind the first operations. -/
theorem chain_states {os : List Oper} {ss : List (Bool × Eff)} {st0 : St} : ∀ (n k : Nat) (st st' : St), n + k = os.length → st = stP os ss st0 (fun j => decide (j < k)) → Chain tab EQ C ops (os.drop k) st (ss.drop k) st' →
    (∀ i, k ≤ i → i < os.length → ∃ o s, os[i]? = some o ∧ ss[i]? = some s ∧ guardA ops (stP os ss st0 (fun j => decide (j < i))) o = some s.1 ∧ (s.1 = true → EvR tab EQ C (stP os ss st0 (fun j => decide (j < i))) o s.2) ∧ (s.1 = false → s.2 = undE)) ∧
    st' = stP os ss st0 (fun _ => true)
  | 0, k, st, st', hn, hst, hc => by
    refine ⟨fun i h1 h2 => by omega, ?_⟩
    rw [List.drop_of_length_le (by omega)] at hc
    cases hq : ss.drop k with
    | nil =>
      rw [hq] at hc
      have hc : st' = st := hc
      rw [hc, hst]
      exact stP_congr (fun j hj => by simp; omega)
    | cons x l => rw [hq] at hc; exact hc.elim
  | n + 1, k, st, st', hn, hst, hc => by
    have hk : k < os.length := by omega
    rw [List.drop_eq_getElem_cons hk] at hc
    cases hq : ss.drop k with
    | nil => rw [hq] at hc; exact hc.elim
    | cons s l =>
      rw [hq] at hc
      obtain ⟨c1, c2, c3, c4⟩ := hc
      have hks : k < ss.length := by
        rcases Nat.lt_or_ge k ss.length with h | h
        · exact h
        · rw [List.drop_of_length_le h] at hq; cases hq
      rw [List.drop_eq_getElem_cons hks] at hq
      injection hq with hq1 hq2
      have ho : os[k]? = some os[k] := List.getElem?_eq_getElem hk
      have hs : ss[k]? = some s := by rw [← hq1]; exact List.getElem?_eq_getElem hks
      have happ : st.app os[k].dst s.2 = stP os ss st0 (fun j => decide (j < k + 1)) := by
        rw [hst, stP_app ho hs (by simp) (fun j d h1 h2 => by simp at h2; omega) (fun j d h1 h2 => by simp at h2; omega)]
        exact stP_congr (fun j _ => by
          by_cases h1 : j = k
          · subst h1; simp
          · have : (j == k) = false := by simpa using h1
            simp [this]
            omega)
      rw [← hq2] at c4
      obtain ⟨r1, r2⟩ := chain_states n (k + 1) _ st' (by omega) happ c4
      refine ⟨fun i h1 h2 => ?_, r2⟩
      by_cases hik : i = k
      · subst hik
        subst hst
        exact ⟨_, s, ho, hs, c1, c2, c3⟩
      · exact r1 i (by omega) h2
end
end Go.AbsK

namespace Go.AbsK
open Go.RowKit

section
variable {P : Program} {tab : Tab} {EQ : TypeId → Option Shp} {C : Orc} {base : Nat} {w0 : Anch} {N : Nat} {ν : Env} {st : St} {a : Act} {w : World} {o : Oper} {e : Eff} {ops : Array Oper} {Q : Exit → Act → World → Prop}
def lst (listed : Array Bool) (j : Nat) : Bool := listed.getD j false
/-- What has come up is closed under the edges that bind. -/
def Closed (ops : Array Oper) (listed : Array Bool) : Prop := ∀ (i : Nat) (o : Oper), ops[i]? = some o → lst listed i = true → ∀ e ∈ o.after, bindsE e = true → lst listed e.on = true
theorem edges_spec {os : List Oper} {an : List Nat} (h : edgesOK os an = true) {i : Nat} {o : Oper} (ho : os[i]? = some o) : (∀ e ∈ o.after, bindsE e = true → e.on < i) ∧
    ∀ j, j < os.length → (an.getD i 0).testBit j = true → ∃ e ∈ o.after, bindsE e = true ∧ (e.on = j ∨ (an.getD e.on 0).testBit j = true) := by
  have hi : i < os.length := (List.getElem?_eq_some_iff.1 ho).1
  unfold edgesOK at h
  have := List.all_eq_true.1 h i (List.mem_range.2 hi)
  rw [ho] at this
  simp only [Bool.and_eq_true] at this
  obtain ⟨h1, h2⟩ := this
  refine ⟨fun e he hb => ?_, fun j hj hbit => ?_⟩
  · have := List.all_eq_true.1 h1 e (by simpa using he)
    simpa [hb] using this
  · have := List.all_eq_true.1 h2 j (List.mem_range.2 hj)
    rw [hbit] at this
    simp only [Bool.not_true, Bool.false_or] at this
    obtain ⟨e, he, hq⟩ := List.any_eq_true.1 this
    simp only [Bool.and_eq_true, Bool.or_eq_true, beq_iff_eq] at hq
    exact ⟨e, by simpa using he, hq.1, hq.2⟩
/-- All that must come before has come. -/
theorem anc_listed {an : List Nat} (h : edgesOK ops.toList an = true) {listed : Array Bool} (hcl : Closed ops listed) : ∀ (i : Nat) (o : Oper), ops[i]? = some o → (∀ e ∈ o.after, bindsE e = true → lst listed e.on = true) →
    ∀ j, j < ops.size → (an.getD i 0).testBit j = true → lst listed j = true := by
  intro i
  induction i using Nat.strongRecOn with
  | _ i ih =>
    intro o ho hdeps j hj hbit
    have ho' : ops.toList[i]? = some o := by rw [Array.getElem?_toList]; exact ho
    obtain ⟨h1, h2⟩ := edges_spec h ho'
    obtain ⟨e, he, hb, hq⟩ := h2 j (by simpa using hj) hbit
    have hlt := h1 e he hb
    have hl := hdeps e he hb
    rcases hq with rfl | hq
    · exact hl
    · have hi : i < ops.size := (Array.getElem?_eq_some_iff.1 ho).1
      have hoe : ops[e.on]? = some ops[e.on] := Array.getElem?_eq_getElem (by omega)
      exact ih e.on hlt _ hoe (fun e' he' hb' => hcl _ _ hoe hl e' he' hb') j hj hq
theorem fps_get {all : Array Oper} : ∀ {os : List Oper} {ss : List (Bool × Eff)} {i : Nat} {o : Oper} {s : Bool × Eff}, os[i]? = some o → ss[i]? = some s → (fpsOf all os ss)[i]? = some (fpOf all o s.2)
  | [], _, _, _, _, ho, _ => by simp at ho
  | _ :: _, [], _, _, _, _, hs => by simp at hs
  | o :: os, s :: ss, 0, o', s', ho, hs => by
    simp only [List.getElem?_cons_zero, Option.some.injEq] at ho hs
    subst ho hs
    rfl
  | o :: os, s :: ss, i + 1, o', s', ho, hs => by
    simp only [List.getElem?_cons_succ] at ho hs
    exact fps_get (os := os) ho hs
theorem ord_spec {os : List Oper} {fps : List FP} (h : ordOK os fps = true) : edgesOK os (ancs os) = true ∧ ∀ (i j : Nat) (x y : FP), i < os.length → j < i → fps[i]? = some x → fps[j]? = some y → clash x y = true → ((ancs os).getD i 0).testBit j = true := by
  unfold ordOK at h
  simp only [Bool.and_eq_true] at h
  refine ⟨h.1, fun i j x y hi hj hx hy hc => ?_⟩
  have h1 := List.all_eq_true.1 h.2 i (List.mem_range.2 hi)
  have h2 := List.all_eq_true.1 h1 j (List.mem_range.2 hj)
  rw [hx, hy] at h2
  simpa [hc] using h2
theorem meetL_of {x y : List Nat} {n : Nat} (h1 : n ∈ x) (h2 : n ∈ y) : meetL x y = true := by
  unfold meetL
  exact List.any_eq_true.2 ⟨n, h1, by simpa using h2⟩
theorem clash_ws_rs {x y : FP} {d : Nat} (h1 : x.ws = some d) (h2 : d ∈ y.rs) : clash x y = true := by
  unfold clash meetO
  rw [h1]
  simp [h2]
theorem clash_rs_ws {x y : FP} {d : Nat} (h1 : d ∈ x.rs) (h2 : y.ws = some d) : clash x y = true := by
  unfold clash
  have : meetO y.ws x.rs = true := by unfold meetO; rw [h2]; simpa using h1
  simp [this]
theorem clash_ws_ws {x y : FP} {d : Nat} (h1 : x.ws = some d) (h2 : y.ws = some d) : clash x y = true := by
  unfold clash
  rw [h1, h2]
  simp
theorem clash_wn_rn {x y : FP} {n : Nat} (h1 : n ∈ x.wn) (h2 : n ∈ y.rn) : clash x y = true := by
  unfold clash
  simp [meetL_of h1 h2]
theorem clash_rn_wn {x y : FP} {n : Nat} (h1 : n ∈ x.rn) (h2 : n ∈ y.wn) : clash x y = true := by
  unfold clash
  simp [meetL_of h2 h1]
theorem clash_wn_wn {x y : FP} {n : Nat} (h1 : n ∈ x.wn) (h2 : n ∈ y.wn) : clash x y = true := by
  unfold clash
  simp [meetL_of h1 h2]
theorem countP_flip {p q : Nat → Bool} {i : Nat} (hp : p i = true) (hq : q i = false) (hpq : ∀ j, j ≠ i → q j = p j) : ∀ {n : Nat}, i < n → (List.range n).countP q + 1 = (List.range n).countP p
  | 0, h => by omega
  | n + 1, h => by
    rw [List.range_succ, List.countP_append, List.countP_append]
    by_cases hin : i = n
    · subst hin
      have : (List.range i).countP q = (List.range i).countP p := by
        apply List.countP_congr
        intro j hj
        rw [hpq j (by have := List.mem_range.1 hj; omega)]
      simp [hp, hq, this]
    · have := countP_flip hp hq hpq (n := n) (by omega)
      have h2 : q n = p n := hpq n (by omega)
      simp only [List.countP_cons, List.countP_nil, h2]
      omega
theorem countP_zero {p : Nat → Bool} {n : Nat} (h : (List.range n).countP p = 0) (j : Nat) (hj : j < n) : p j = false := by
  rw [List.countP_eq_zero] at h
  simpa using h j (List.mem_range.2 hj)
theorem least_of {p : Nat → Bool} : ∀ n j, j < n → p j = true → ∃ i, i < n ∧ p i = true ∧ ∀ k, k < i → p k = false := by
  intro n j
  induction j using Nat.strongRecOn with
  | _ j ih =>
    intro hj hp
    by_cases hq : ∃ k, k < j ∧ p k = true
    · obtain ⟨k, h1, h2⟩ := hq
      exact ih k h1 (by omega) h2
    · exact ⟨j, hj, hp, fun k hk => by
        cases hpk : p k with
        | false => rfl
        | true => exact absurd ⟨k, hk, hpk⟩ hq⟩
theorem drawn_any {ro : Option Nat} {rm : Nat} (hT : TabOK P tab) (hE : EqOK P EQ) (hC : COK P C) (hdst : dstOK N ops.toList) {ss : List (Bool × Eff)} {st0 stn : St} (hch : Chain tab EQ C ops ops.toList st0 ss stn) (hord : ordOK ops.toList (fpsOf ops ops.toList ss) = true)
    (hQ : ∀ ν' a' w', Rel base w0 N ν' stn a' w' → Q .normal a' w') :
    ∀ (fuel : Nat) (listed : Array Bool) (a : Act) (w : World) (ν : Env), listed.size = ops.size → Closed ops listed → (List.range ops.size).countP (fun i => !lst listed i) = fuel → Rel base w0 N ν (stP ops.toList ss st0 (lst listed)) a w →
      wpAnyIn (fen ro) rm P .any ops Q fuel listed a w := by
  obtain ⟨hedges, hclash⟩ := ord_spec hord
  obtain ⟨hst, hfin⟩ := chain_states (ops := ops) (os := ops.toList) (ss := ss) (st0 := st0) ops.toList.length 0 st0 stn (Nat.add_zero _) (by
    have : (fun (j : Nat) => decide (j < 0)) = fun _ => false := by funext j; simp
    rw [this, stP_none]) (by rw [List.drop_zero, List.drop_zero]; exact hch)
  have hlen : ops.toList.length = ops.size := by simp
  have hget : ∀ i o, ops[i]? = some o → ops.toList[i]? = some o := fun i o h => by rw [Array.getElem?_toList]; exact h
  intro fuel
  induction fuel with
  | zero =>
    intro listed a w ν hsz hcl hcnt hR
    have hall : ∀ j, j < ops.size → lst listed j = true := fun j hj => by simpa using countP_zero hcnt j hj
    refine ⟨?_, hQ ν a w ?_⟩
    · rw [List.eq_nil_iff_forall_not_mem]
      intro j hj
      obtain ⟨h1, o, h2, -⟩ := mem_ready.1 hj
      have hj' : j < ops.size := (Array.getElem?_eq_some_iff.1 h2).1
      have := hall j hj'
      unfold lst at this
      rw [Array.getD_eq_getD_getElem?, Array.getElem?_eq_getElem (by omega)] at this h1
      simp only [Option.getD_some] at this h1
      rw [this] at h1
      cases h1
    · rw [hfin]
      rw [stP_congr (q := fun _ => true) (fun j hj => hall j (by rw [← hlen]; exact hj))] at hR
      exact hR
  | succ fuel ih =>
    intro listed a w ν hsz hcl hcnt hR
    refine ⟨fun hnil => ?_, fun i hi => ?_⟩
    · exfalso
      have : ∃ j, j < ops.size ∧ (!lst listed j) = true := by
        by_cases h : ∃ j, j < ops.size ∧ (!lst listed j) = true
        · exact h
        · have : (List.range ops.size).countP (fun i => !lst listed i) = 0 := by
            rw [List.countP_eq_zero]
            intro j hj hq
            exact h ⟨j, List.mem_range.1 hj, hq⟩
          omega
      obtain ⟨j, hj, hq⟩ := this
      obtain ⟨i, h1, h2, h3⟩ := least_of (p := fun i => !lst listed i) ops.size j hj hq
      have ho : ops[i]? = some ops[i] := Array.getElem?_eq_getElem h1
      have : i ∈ Region.ready .any ops listed := by
        refine mem_ready.2 ⟨?_, _, ho, fun e he hb => ?_⟩
        · simp only [Bool.not_eq_true'] at h2
          unfold lst at h2
          rw [Array.getD_eq_getD_getElem?, Array.getElem?_eq_getElem (by omega)] at h2 ⊢
          exact h2
        · have hlt := (edges_spec hedges (hget _ _ ho)).1 e he hb
          have := h3 e.on hlt
          simpa [lst] using this
      rw [hnil] at this
      cases this
    · obtain ⟨hun, o, ho, hdeps⟩ := mem_ready.1 hi
      have hil : i < ops.size := (Array.getElem?_eq_some_iff.1 ho).1
      have hun' : lst listed i = false := by
        unfold lst
        rw [Array.getD_eq_getD_getElem?, Array.getElem?_eq_getElem (by omega)] at hun ⊢
        exact hun
      have hdeps' : ∀ e ∈ o.after, bindsE e = true → lst listed e.on = true := fun e he hb => hdeps e he hb
      obtain ⟨o', s, h1, h2, h3, h4, h5⟩ := hst i (Nat.zero_le _) (by rw [hlen]; exact hil)
      rw [hget i o ho] at h1
      injection h1 with h1
      subst h1
      have hfp := fps_get (all := ops) (hget i o ho) h2
      -- whoever clashes and stands before has come; whoever clashes and stands behind has not
      have hbef : ∀ j oj sj, j < i → ops[j]? = some oj → ss[j]? = some sj → clash (fpOf ops o s.2) (fpOf ops oj sj.2) = true → lst listed j = true := by
        intro j oj sj hji hoj hsj hc
        have := hclash i j _ _ (by rw [hlen]; exact hil) hji hfp (fps_get (hget j oj hoj) hsj) hc
        exact anc_listed hedges hcl i o ho hdeps' j (by omega) this
      have haft : ∀ j oj sj, i < j → ops[j]? = some oj → ss[j]? = some sj → clash (fpOf ops oj sj.2) (fpOf ops o s.2) = true → lst listed j = false := by
        intro j oj sj hij hoj hsj hc
        have hjl : j < ops.size := (Array.getElem?_eq_some_iff.1 hoj).1
        cases hq : lst listed j with
        | false => rfl
        | true =>
          have := hclash j i _ _ (by rw [hlen]; exact hjl) hij (fps_get (hget j oj hoj) hsj) hfp hc
          have := anc_listed hedges hcl j oj hoj (fun e he hb => hcl j oj hoj hq e he hb) i hil this
          rw [hun'] at this
          cases this
      have hus : ∀ j d, (us ops.toList ss j d).isSome = true → ∃ oj sj, ops[j]? = some oj ∧ ss[j]? = some sj ∧ oj.dst = some d := by
        intro j d hq
        unfold us at hq
        split at hq
        · rename_i oj sj hoj hsj
          split at hq
          · rename_i hd
            exact ⟨oj, sj, by simpa using hoj, hsj, hd⟩
          · cases hq
        · cases hq
      have huh : ∀ j m, (uh ss j m).isSome = true → ∃ sj, ss[j]? = some sj ∧ m.1 ∈ sj.2.blks.map (·.1.1) := by
        intro j m hq
        unfold uh at hq
        split at hq
        · rename_i sj hsj
          cases hu : updH none1 sj.2.blks m with
          | none => rw [hu] at hq; cases hq
          | some b => exact ⟨sj, hsj, List.mem_map.2 ⟨(m, b), mem_updH hu, rfl⟩⟩
        · cases hq
      have hopj : ∀ j sj, ss[j]? = some sj → j < ops.size → ∃ oj, ops[j]? = some oj := fun j sj _ hj => ⟨_, Array.getElem?_eq_getElem hj⟩
      -- the state at hand is, for this operation, the one behind those that stand before it
      have hag1 : ∀ d ∈ tmpsOf ops o, (stP ops.toList ss st0 (fun j => decide (j < i))).slots d = (stP ops.toList ss st0 (lst listed)).slots d := by
        intro d hd
        show (lastW _ _).getD _ = (lastW _ _).getD _
        rw [lastW_congr (fun j hj => ?_)]
        cases hq : us ops.toList ss j d with
        | none => simp
        | some v =>
          obtain ⟨oj, sj, g1, g2, g3⟩ := hus j d (by rw [hq]; rfl)
          rcases Nat.lt_trichotomy j i with hlt | rfl | hgt
          · rw [hbef j oj sj hlt g1 g2 (clash_rs_ws (d := d) hd g3)]
            simp [hlt]
          · simp [hun']
          · rw [haft j oj sj hgt g1 g2 (clash_ws_rs (d := d) g3 hd)]
            have : ¬ j < i := by omega
            simp [this]
      have hag2 : ∀ m ∈ s.2.rd, (stP ops.toList ss st0 (fun j => decide (j < i))).heap m = (stP ops.toList ss st0 (lst listed)).heap m := by
        intro m hm
        show (match lastW _ _ with | some b => some b | none => st0.heap m) = (match lastW _ _ with | some b => some b | none => st0.heap m)
        rw [lastW_congr (fun j hj => ?_)]
        cases hq : uh ss j m with
        | none => simp
        | some v =>
          obtain ⟨sj, g2, g3⟩ := huh j m (by rw [hq]; rfl)
          obtain ⟨oj, g1⟩ := hopj j sj g2 (by rw [← hlen]; exact hj)
          have hm1 : m.1 ∈ (fpOf ops o s.2).rn := List.mem_map.2 ⟨m, hm, rfl⟩
          rcases Nat.lt_trichotomy j i with hlt | rfl | hgt
          · rw [hbef j oj sj hlt g1 g2 (clash_rn_wn hm1 g3)]
            simp [hlt]
          · simp [hun']
          · rw [haft j oj sj hgt g1 g2 (clash_wn_rn g3 hm1)]
            have : ¬ j < i := by omega
            simp [this]
      have hguard : guardA ops (stP ops.toList ss st0 (lst listed)) o = some s.1 := by
        rw [← h3]
        unfold guardA
        cases hgd : o.guard with
        | none => rfl
        | some q =>
          obtain ⟨j, want⟩ := q
          simp only
          cases hq : (ops[j]?).bind (·.dst) with
          | none => rfl
          | some d =>
            simp only
            rw [hag1 d (by
              unfold tmpsOf Oper.looksAt
              rw [hgd]
              simp only [List.mem_append]
              exact .inr (by rw [hq]; simp))]
      have hw := guard_sound hR hguard
      have hnext : (stP ops.toList ss st0 (lst listed)).app o.dst s.2 = stP ops.toList ss st0 (lst (listed.setIfInBounds i true)) := by
        rw [stP_app (hget i o ho) h2 hun' (fun j d hij hpj hod => ?_) (fun j m hij hpj hq => ?_)]
        · refine stP_congr (fun j hj => ?_)
          unfold lst
          by_cases hji : j = i
          · subst hji
            rw [Array.getD_eq_getD_getElem? (xs := listed.setIfInBounds j true), Array.getElem?_setIfInBounds_self, if_pos (by omega)]
            simp
          · rw [Array.getD_eq_getD_getElem? (xs := listed.setIfInBounds i true), Array.getElem?_setIfInBounds_ne (Ne.symm hji), ← Array.getD_eq_getD_getElem?]
            simp [hji]
        · cases hq : us ops.toList ss j d with
          | none => rfl
          | some v =>
            obtain ⟨oj, sj, g1, g2, g3⟩ := hus j d (by rw [hq]; rfl)
            rw [haft j oj sj hij g1 g2 (clash_ws_ws (d := d) g3 hod)] at hpj
            cases hpj
        · cases hq2 : uh ss j m with
          | none => rfl
          | some v =>
            obtain ⟨sj, g2, g3⟩ := huh j m (by rw [hq2]; rfl)
            have hjl : j < ops.size := by
              rcases Nat.lt_or_ge j ops.size with h | h
              · exact h
              · unfold lst at hpj
                rw [Array.getD_eq_getD_getElem?, Array.getElem?_eq_none (by omega)] at hpj
                cases hpj
            obtain ⟨oj, g1⟩ := hopj j sj g2 hjl
            have hm1 : m.1 ∈ (fpOf ops o s.2).wn := by
              cases hu : updH none1 s.2.blks m with
              | none => rw [hu] at hq; cases hq
              | some b => exact List.mem_map.2 ⟨(m, b), mem_updH hu, rfl⟩
            rw [haft j oj sj hij g1 g2 (clash_wn_wn g3 hm1)] at hpj
            cases hpj
      have hcl' : Closed ops (listed.setIfInBounds i true) := by
        intro j oj hoj hlj e he hb
        have hmono : ∀ k, lst listed k = true → lst (listed.setIfInBounds i true) k = true := by
          intro k hk
          unfold lst at *
          by_cases hki : k = i
          · subst hki
            rw [Array.getD_eq_getD_getElem?, Array.getElem?_setIfInBounds_self, if_pos (by omega)]
            rfl
          · rw [Array.getD_eq_getD_getElem?, Array.getElem?_setIfInBounds_ne (Ne.symm hki), ← Array.getD_eq_getD_getElem?]
            exact hk
        by_cases hji : j = i
        · subst hji
          rw [ho] at hoj
          injection hoj with hoj
          subst hoj
          exact hmono _ (hdeps' e he hb)
        · have : lst listed j = true := by
            unfold lst at *
            rw [Array.getD_eq_getD_getElem?, Array.getElem?_setIfInBounds_ne (Ne.symm hji), ← Array.getD_eq_getD_getElem?] at hlj
            exact hlj
          exact hmono _ (hcl j oj hoj this e he hb)
      have hcnt' : (List.range ops.size).countP (fun k => !lst (listed.setIfInBounds i true) k) = fuel := by
        have := countP_flip (p := fun k => !lst listed k) (q := fun k => !lst (listed.setIfInBounds i true) k) (i := i) (by simp [hun']) (by
          unfold lst
          rw [Array.getD_eq_getD_getElem?, Array.getElem?_setIfInBounds_self, if_pos (by omega)]
          rfl) (fun j hj => by
          unfold lst
          rw [Array.getD_eq_getD_getElem? (xs := listed.setIfInBounds i true), Array.getElem?_setIfInBounds_ne (Ne.symm hj), ← Array.getD_eq_getD_getElem?]) hil
        omega
      have hdo : ∀ d, o.dst = some d → d < N := hdst o (by
        have := List.mem_of_getElem? (hget i o ho)
        exact this)
      have hK : ∀ ν' a' w', Rel base w0 N ν' ((stP ops.toList ss st0 (lst listed)).app o.dst s.2) a' w' → wpAnyIn (fen ro) rm P .any ops Q fuel (listed.setIfInBounds i true) a' w' := by
        intro ν' a' w' hR'
        rw [hnext] at hR'
        exact ih _ a' w' ν' (by rw [Array.size_setIfInBounds]; exact hsz) hcl' hcnt' hR'
      unfold wpOpIn
      rw [ho]
      simp only
      cases hs1 : s.1 with
      | true =>
        rw [hs1] at hw
        rw [if_pos hw]
        exact evOp_sound hT hE hC hR hdo (evOp_congr (ops := ops) hag1 rfl (h4 hs1) hag2) hK
      | false =>
        rw [hs1] at hw
        rw [if_neg (by rw [hw]; simp)]
        have hsk := rel_skip hR (d := o.dst) hdo
        rw [← h5 hs1] at hsk
        exact ⟨fun _ _ => trivial, hK _ _ _ hsk⟩
theorem any_sound {ro : Option Nat} {rm : Nat} (hT : TabOK P tab) (hE : EqOK P EQ) (hC : COK P C) (hdst : dstOK N ops.toList) {K : St → Prop} (h : regGo tab EQ C ops ops.toList st [] fun hf st' => drawOK ops hf = true ∧ K st')
    (hR : Rel base w0 N ν st a w) (hQ : ∀ st' ν' a' w', K st' → Rel base w0 N ν' st' a' w' → Q .normal a' w') : wpAnyIn (fen ro) rm P .any ops Q ops.size (Array.replicate ops.size false) a { w with drawn := w.drawn + 1 } := by
    obtain ⟨ss, st', h1, h2, h3⟩ := regGo_chain _ _ _ _ h
    rw [List.nil_append] at h2
    unfold drawOK at h2
    rw [zip_fps] at h2
    refine drawn_any hT hE hC hdst h1 h2 (fun ν' a' w' hR' => hQ st' ν' a' w' h3 hR') ops.size _ a _ ν (by simp) ?_ ?_ ?_
    · intro i o ho hl
      exfalso
      unfold lst at hl
      rw [Array.getD_eq_getD_getElem?] at hl
      cases hq : (Array.replicate ops.size false)[i]? with
      | none => rw [hq] at hl; cases hl
      | some b =>
        rw [hq] at hl
        have := Array.getElem?_eq_some_iff.1 hq
        obtain ⟨h1, h2⟩ := this
        simp at h2
        rw [h2] at hl
        cases hl
    · have : ∀ i, lst (Array.replicate ops.size false) i = false := by
        intro i
        unfold lst
        rw [Array.getD_eq_getD_getElem?]
        cases hq : (Array.replicate ops.size false)[i]? with
        | none => rfl
        | some b =>
          obtain ⟨h1, h2⟩ := Array.getElem?_eq_some_iff.1 hq
          simp at h2
          rw [← h2]
          rfl
      simp [this]
    · have : lst (Array.replicate ops.size false) = fun _ => false := by
        funext i
        unfold lst
        rw [Array.getD_eq_getD_getElem?]
        cases hq : (Array.replicate ops.size false)[i]? with
        | none => rfl
        | some b =>
          obtain ⟨h1, h2⟩ := Array.getElem?_eq_some_iff.1 hq
          simp at h2
          rw [← h2]
          rfl
      rw [this, stP_none]
      exact hR.drew
theorem region_sound {ro : Option Nat} {rm : Nat} (hT : TabOK P tab) (hE : EqOK P EQ) (hC : COK P C) (hm : P.follows .mixedOrders = true) (hdst : dstOK N ops.toList) {id : Nat} {draw : Bool} {K : St → Prop} (h : regGo tab EQ C ops ops.toList st [] fun hf st' => (draw = true → drawOK ops hf = true) ∧ K st')
    (hR : Rel base w0 N ν st a w) (hQ : ∀ st' ν' a' w', K st' → Rel base w0 N ν' st' a' w' → Q .normal a' w') : (Code.region id ops draw).wpIn (fen ro) rm P Q a w := by
  cases draw with
  | false =>
    exact wpIn_region_list (regGo_list hT hE hC _ st [] _ ν a w hdst h hR (fun fps st' ν' a' w' hk hR' => hQ st' ν' a' w' hk.2 hR'))
  | true =>
    simp only [forall_const] at h
    exact wpIn_region_any hm (any_sound hT hE hC hdst h hR hQ)
end
end Go.AbsK

namespace Go.AbsK
open Go.RowKit

def codeOK (N : Nat) : Code → Bool
  | .region _ ops _ => ops.toList.all fun o => match o.dst with | some d => decide (d < N) | none => true
  | .seq x y => codeOK N x && codeOK N y
  | .cond _ x y => codeOK N x && codeOK N y
  | .block _ x => codeOK N x
  | .loop x => codeOK N x
  | .scope x => codeOK N x
  | _ => true
section
variable {P : Program} {tab : Tab} {EQ : TypeId → Option Shp} {C : Orc} {base : Nat} {w0 : Anch} {N : Nat} {ν : Env} {st : St} {a : Act} {w : World} {o : Oper} {e : Eff} {ops : Array Oper} {Q : Exit → Act → World → Prop}
/-- The blocks under new names; what has no name is nil. -/
def ghE (ρ : Rn) (ν : Env) : Env := fun n => match ρ n with
  | some m => ν m
  | none => nilA
theorem Cell.conc_gh {ρ : Rn} {ν : Env} {c : Cell} (h : c.ghOK ρ) : (c.gh ρ).conc ν = c.conc (ghE ρ ν) := by
  cases c with
  | ptr n row w col =>
    cases hq : ρ n with
    | none => simp only [Cell.ghOK, hq] at h
    | some m => simp only [Cell.gh, Cell.conc, ghE, hq]
  | slc n row w len cap =>
    cases hq : ρ n with
    | none =>
      simp only [Cell.ghOK, hq] at h
      obtain ⟨h1, h2⟩ := h
      simp only [Cell.gh, Cell.conc, ghE, hq, nilA, Option.isSome_some, if_true, h1, h2]
    | some m => simp only [Cell.gh, Cell.conc, ghE, hq]
  | _ => rfl
theorem ghOKs_mem {ρ : Rn} : ∀ {l : List Cell}, ghOKs ρ l → ∀ c ∈ l, c.ghOK ρ
  | [], _, c, hc => by cases hc
  | x :: l, h, c, hc => by
    rcases List.mem_cons.1 hc with rfl | hc
    · exact h.1
    · exact ghOKs_mem h.2 c hc
theorem concs_gh {ρ : Rn} {ν : Env} {l : List Cell} (h : ∀ c ∈ l, c.ghOK ρ) : concs ν (l.map (Cell.gh ρ)) = concs (ghE ρ ν) l := by
  unfold concs
  rw [List.map_map]
  exact congrArg List.toArray (List.map_congr_left (fun c hc => Cell.conc_gh (h c hc)))
theorem AV.conc_gh {ρ : Rn} {ν : Env} {v : AV} (h : v.ghOK ρ) : (v.gh ρ).conc ν = v.conc (ghE ρ ν) := by
  induction v with
  | und => rfl
  | c x => exact Cell.conc_gh h
  | agg l => simp only [AV.gh, AV.conc, concs_gh (ghOKs_mem h)]
  | fn f l => simp only [AV.gh, AV.conc, concs_gh (ghOKs_mem h)]
  | t2 a b iha ihb => simp only [AV.gh, AV.conc, iha h.1, ihb h.2]
  | ext v => rfl
theorem AV.gh_und {ρ : Rn} {v : AV} (h : v.gh ρ = .und) : v = .und := by cases v <;> first | rfl | cases h
/-- What is true of a state is true of one that says less. -/
theorem Rel.weaken (hR : Rel base w0 N ν st a w) {s : St} {ρ : Rn} (hle : LeG ρ s st) : Rel base w0 N (ghE ρ ν) s a w := by
  obtain ⟨hc1, hc2, hc3⟩ := hle.closed
  have hanc : ∀ n, w0.D n → ρ n = some n ∧ bd s.heap n := by
    intro n hn
    obtain ⟨g1, g2, g3⟩ := hR.hr.anc n hn
    obtain ⟨k1, k2⟩ := hle.anc n.1 (hR.ank n hn)
    have hn' : n = (n.1, 0) := by cases n; simp only at g1; subst g1; rfl
    rw [hn']
    exact ⟨k1, k2 (by rw [← hn']; exact g2)⟩
  refine ⟨hR.defers, hR.size, fun k => ?_, ⟨fun n b hn => ?_, fun n n' b b' hn hn' ho ho' hs hs' hne => ?_, hR.hr.below, fun n hn => ?_, hR.hr.base_le, fun d g hg => hc3 d g hg, hR.hr.oth⟩, fun n hn => by rw [hle.kk]; exact hR.ank n hn⟩
  · rcases hle.slots k with h | ⟨h0, h⟩
    · exact .inl h
    · rcases hc1 k with h' | h'
      · exact .inl h'
      · rcases hR.slots k with h9 | ⟨_, h9⟩
        · exact .inl (AV.gh_und (h.symm.trans h9))
        · exact .inr ⟨h', by rw [h9, h, AV.conc_gh h0]⟩
  · have hq := hle.heap n b hn
    cases hρ : ρ n with
    | none =>
      rw [hρ] at hq
      obtain ⟨hq, hq0⟩ := hq
      have he : ghE ρ ν n = nilA := by unfold ghE; rw [hρ]
      exact ⟨fun r hr => (by rw [hq] at hr; cases hr), fun row r j c hr => (by rw [hq] at hr; simp at hr), fun _ => ⟨hq, by rw [he]; rfl, fun c hc => by rw [hc] at hq0; exact hq0⟩, fun _ hs => (by rw [he] at hs; cases hs)⟩
    | some m =>
      rw [hρ] at hq
      obtain ⟨hq, hok⟩ := hq
      have he : ghE ρ ν n = ν m := by unfold ghE; rw [hρ]
      have hB := hR.hr.heap m _ hq
      refine ⟨fun r hr => ?_, fun row r j c hr hc => ?_, fun hs => ?_, fun ho hs => ?_⟩
      · have := hB.width (r.map (Cell.gh ρ)) (List.mem_map.2 ⟨r, hr, rfl⟩)
        rw [List.length_map] at this
        exact this
      · have hr' : (b.gh ρ).rows[row]? = some (r.map (Cell.gh ρ)) := by
          show (b.rows.map (List.map (Cell.gh ρ)))[row]? = _
          rw [List.getElem?_map, hr]; rfl
        have hc' : (r.map (Cell.gh ρ))[j]? = some (c.gh ρ) := by rw [List.getElem?_map, hc]; rfl
        obtain ⟨g1, g2, g3⟩ := hB.read row _ j _ hr' hc'
        rw [he, ← Cell.conc_gh (hok r (List.mem_of_getElem? hr) c (List.mem_of_getElem? hc))]
        exact ⟨hc2 n b r hn (List.mem_of_getElem? hr) c (List.mem_of_getElem? hc), g2, g3⟩
      · rw [he] at hs ⊢
        obtain ⟨k1, k2, k3⟩ := hB.nil hs
        exact ⟨List.map_eq_nil_iff.1 k1, k2, k3⟩
      · rw [he] at hs ⊢
        obtain ⟨k1, k2, k3, k4⟩ := hB.own ho hs
        exact ⟨k1, k2, by simpa [Blk.gh] using k3, k4⟩
  · have hq := hle.heap n b hn
    have hq' := hle.heap n' b' hn'
    cases hρ : ρ n with
    | none => simp only [ghE, hρ, nilA] at hs; cases hs
    | some m =>
      cases hρ' : ρ n' with
      | none => simp only [ghE, hρ', nilA] at hs'; cases hs'
      | some m' =>
        rw [hρ] at hq
        rw [hρ'] at hq'
        simp only [ghE, hρ, hρ'] at hs hs' ⊢
        refine hR.hr.inj m m' _ _ hq.1 hq'.1 ho ho' hs hs' (fun e => hne ?_)
        subst e
        exact hle.inj n n' m (by unfold bd; rw [hn]; rfl) (by unfold bd; rw [hn']; rfl) hρ hρ'
  · obtain ⟨g1, g2, g3⟩ := hR.hr.anc n hn
    obtain ⟨k1, k2⟩ := hanc n hn
    exact ⟨g1, k2, by unfold ghE; rw [k1]; exact g3⟩
theorem Cell.gh_id (c : Cell) : c.gh some = c := by cases c <;> rfl
theorem Cell.ghOK_id (c : Cell) : c.ghOK some := by cases c <;> trivial
theorem map_gh_id (l : List Cell) : l.map (Cell.gh some) = l := by
  induction l with
  | nil => rfl
  | cons x l ih => rw [List.map_cons, Cell.gh_id, ih]
theorem ghOKs_id : ∀ l : List Cell, ghOKs some l
  | [] => trivial
  | c :: l => ⟨Cell.ghOK_id c, ghOKs_id l⟩
theorem AV.gh_id (v : AV) : v.gh some = v := by
  induction v with
  | und => rfl
  | c x => simp only [AV.gh, Cell.gh_id]
  | agg l => simp only [AV.gh, map_gh_id]
  | fn f l => simp only [AV.gh, map_gh_id]
  | t2 a b iha ihb => simp only [AV.gh, iha, ihb]
  | ext v => rfl
theorem AV.ghOK_id (v : AV) : v.ghOK some := by
  induction v with
  | c x => exact Cell.ghOK_id x
  | agg l => exact ghOKs_id l
  | fn f l => exact ghOKs_id l
  | t2 a b iha ihb => exact ⟨iha, ihb⟩
  | _ => trivial
theorem Blk.gh_id (b : Blk) : b.gh some = b := by
  unfold Blk.gh
  have : b.rows.map (List.map (Cell.gh some)) = b.rows := by
    induction b.rows with
    | nil => rfl
    | cons x l ih => rw [List.map_cons, map_gh_id, ih]
  rw [this]
theorem Le.cov {s t : St} (h : Le s t) : Cov s t := by
  obtain ⟨h1, h2, h3, h4⟩ := h
  refine ⟨some, ⟨fun k => ?_, fun n b hn => ⟨by rw [Blk.gh_id]; exact h2 n b hn, fun r _ c _ => Cell.ghOK_id c⟩, fun n n' m _ _ e e' => by injection e with e; injection e' with e'; rw [e, e'], h3.1, fun i hi => ⟨rfl, fun hb => ?_⟩, h4⟩⟩
  · rcases h1 k with h | h
    · exact .inl h
    · exact .inr ⟨AV.ghOK_id _, by rw [AV.gh_id, h]⟩
  · unfold bd at hb ⊢
    rw [h3.2 i hi]
    exact hb
theorem wpC_sound {ro : Option Nat} {rm : Nat} (hT : TabOK P tab) (hE : EqOK P EQ) (hC : COK P C) (hm : P.follows .mixedOrders = true) : ∀ (c : Code) (QA : Exit → St → Prop) (Q : Exit → Act → World → Prop) (st : St) (ν : Env) (a : Act) (w : World), codeOK N c = true → wpC tab EQ C c QA st → Rel base w0 N ν st a w →
    (∀ e st' ν' a' w', QA e st' → Rel base w0 N ν' st' a' w' → Q e a' w') → c.wpIn (fen ro) rm P Q a w
  | .skip, QA, Q, st, ν, a, w, hk, h, hR, hQ => wpIn_skip (hQ _ st ν a w h hR)
  | .region id ops draw, QA, Q, st, ν, a, w, hk, h, hR, hQ => by
    refine region_sound hT hE hC hm (fun o ho s hs => ?_) h hR (fun st' ν' a' w' h' hR' => hQ _ st' ν' a' w' h' hR')
    have := List.all_eq_true.1 hk o ho
    rw [hs] at this
    simpa using this
  | .seq x y, QA, Q, st, ν, a, w, hk, h, hR, hQ => by
    simp only [codeOK, Bool.and_eq_true] at hk
    refine wpIn_seq (wpC_sound hT hE hC hm x _ _ st ν a w hk.1 h hR (fun e st' ν' a' w' h' hR' => ?_))
    cases e with
    | normal => exact wpC_sound hT hE hC hm y _ _ st' ν' a' w' hk.2 h' hR' hQ
    | exit id => exact hQ _ st' ν' a' w' h' hR'
    | goto l => exact hQ _ st' ν' a' w' h' hR'
    | ret => exact hQ _ st' ν' a' w' h' hR'
    | panic ch => exact hQ _ st' ν' a' w' h' hR'
    | outgrown => exact hQ _ st' ν' a' w' h' hR'
  | .cond c x y, QA, Q, st, ν, a, w, hk, h, hR, hQ => by
    simp only [codeOK, Bool.and_eq_true] at hk
    unfold wpC at h
    split at h
    · rename_i t ht
      obtain ⟨-, hv⟩ := hR.ev_c ht
      refine wpIn_cond_split (t := t) hv (fun h1 => ?_) (fun h1 => ?_)
      · exact wpC_sound hT hE hC hm x _ _ st ν a w hk.1 (h.1 h1) hR hQ
      · exact wpC_sound hT hE hC hm y _ _ st ν a w hk.2 (h.2 h1) hR hQ
    · exact h.elim
  | .block id x, QA, Q, st, ν, a, w, hk, h, hR, hQ => by
    refine wpIn_block (wpC_sound hT hE hC hm x _ _ st ν a w hk h hR (fun e st' ν' a' w' h' hR' => ?_))
    cases e with
    | normal => exact hQ _ st' ν' a' w' h' hR'
    | exit id' =>
      simp only at h'
      unfold Exit.inBlock
      split at h'
      · rename_i hid
        simp only [if_pos hid]
        exact hQ _ st' ν' a' w' h' hR'
      · rename_i hid
        simp only [if_neg hid]
        exact hQ _ st' ν' a' w' h' hR'
    | goto l => exact hQ _ st' ν' a' w' h' hR'
    | ret => exact hQ _ st' ν' a' w' h' hR'
    | panic ch => exact hQ _ st' ν' a' w' h' hR'
    | outgrown => exact hQ _ st' ν' a' w' h' hR'
  | .loop x, QA, Q, st, ν, a, w, hk, h, hR, hQ => by
    rcases h with ⟨k, hk'⟩ | h
    · refine wpIn_loop_ghost (fun n a w => ∃ s ν, loopN (wpC tab EQ C x) QA n s ∧ Rel base w0 N ν s a w) k ⟨st, ν, hk', hR⟩ (fun n a w hI => ?_)
      obtain ⟨s, ν, hI, hR⟩ := hI
      cases n with
      | zero => exact hI.elim
      | succ n =>
        refine wpC_sound hT hE hC hm x _ _ s.bump ν a w hk hI hR.bump (fun e st' ν' a' w' h' hR' => ?_)
        cases e with
        | normal => exact ⟨n, Nat.lt_succ_self n, st', ν', h', hR'⟩
        | exit id => exact hQ _ st' ν' a' w' h' hR'
        | goto l => exact hQ _ st' ν' a' w' h' hR'
        | ret => exact hQ _ st' ν' a' w' h' hR'
        | panic ch => exact hQ _ st' ν' a' w' h' hR'
        | outgrown => exact hQ _ st' ν' a' w' h' hR'
    obtain ⟨I, ⟨n0, s0, h0, ρ0, hle⟩, hround⟩ := h
    refine wpIn_loop_ghost (fun n a w => ∃ s ν, I n s ∧ Rel base w0 N ν s a w) n0 ⟨s0, _, h0, hR.weaken hle⟩ (fun n a w hI => ?_)
    obtain ⟨s, ν, hI, hR⟩ := hI
    refine wpC_sound hT hE hC hm x _ _ s ν a w hk (hround n s hI) hR (fun e st' ν' a' w' h' hR' => ?_)
    cases e with
    | normal =>
      obtain ⟨m, s', h1, h2, ρ', h3⟩ := h'
      exact ⟨m, h1, s', _, h2, hR'.weaken h3⟩
    | exit id => exact let ⟨s', ⟨ρ', k1⟩, k2⟩ := h'; hQ _ s' _ a' w' k2 (hR'.weaken k1)
    | goto l => exact let ⟨s', ⟨ρ', k1⟩, k2⟩ := h'; hQ _ s' _ a' w' k2 (hR'.weaken k1)
    | ret => exact let ⟨s', ⟨ρ', k1⟩, k2⟩ := h'; hQ _ s' _ a' w' k2 (hR'.weaken k1)
    | panic ch => exact let ⟨s', ⟨ρ', k1⟩, k2⟩ := h'; hQ _ s' _ a' w' k2 (hR'.weaken k1)
    | outgrown => exact let ⟨s', ⟨ρ', k1⟩, k2⟩ := h'; hQ _ s' _ a' w' k2 (hR'.weaken k1)
  | .exit id, QA, Q, st, ν, a, w, hk, h, hR, hQ => wpIn_exit (hQ _ st ν a w h hR)
  | .ret, QA, Q, st, ν, a, w, hk, h, hR, hQ => wpIn_ret (hQ _ st ν a w h hR)
  | .label l, QA, Q, st, ν, a, w, hk, h, hR, hQ => wpIn_label (hQ _ st ν a w h hR)
  | .goto _, QA, Q, st, ν, a, w, hk, h, hR, hQ => h.elim
  | .scope _, QA, Q, st, ν, a, w, hk, h, hR, hQ => h.elim
  | .refuse _, QA, Q, st, ν, a, w, hk, h, hR, hQ => h.elim
  | .rangeFunc .., QA, Q, st, ν, a, w, hk, h, hR, hQ => h.elim
theorem regGo_mono {tab : Tab} {EQ : TypeId → Option Shp} {C : Orc} {ops : Array Oper} : ∀ (os : List Oper) (st : St) (acc : List HF) (K K' : List HF → St → Prop), (∀ f s, K f s → K' f s) → regGo tab EQ C ops os st acc K → regGo tab EQ C ops os st acc K'
  | [], st, acc, K, K', hk, h => hk _ _ h
  | o :: os, st, acc, K, K', hk, h => by
    unfold regGo opGo at h ⊢
    split at h
    · cases h
    obtain ⟨h1, h2⟩ := h
    refine ⟨fun hg => ?_, fun hg => regGo_mono os _ _ K K' hk (h2 hg)⟩
    obtain ⟨e, he, h1⟩ := h1 hg
    exact ⟨e, he, regGo_mono os _ _ K K' hk h1⟩
theorem wpC_mono {tab : Tab} {EQ : TypeId → Option Shp} {C : Orc} : ∀ (c : Code) (Q Q' : Exit → St → Prop) (st : St), (∀ e s, Q e s → Q' e s) → wpC tab EQ C c Q st → wpC tab EQ C c Q' st
  | .skip, Q, Q', st, hq, h => hq _ _ h
  | .region id ops draw, Q, Q', st, hq, h => regGo_mono _ _ _ _ _ (fun f s hk => ⟨hk.1, hq _ _ hk.2⟩) h
  | .seq x y, Q, Q', st, hq, h => wpC_mono x _ _ st (fun e s hs => by
      cases e with
      | normal => exact wpC_mono y Q Q' s hq hs
      | exit id => exact hq _ _ hs
      | goto l => exact hq _ _ hs
      | ret => exact hq _ _ hs
      | panic ch => exact hq _ _ hs
      | outgrown => exact hq _ _ hs) h
  | .cond c x y, Q, Q', st, hq, h => by
    unfold wpC at h ⊢
    split at h
    · exact ⟨fun ht => wpC_mono x Q Q' st hq (h.1 ht), fun ht => wpC_mono y Q Q' st hq (h.2 ht)⟩
    · cases h
  | .block id x, Q, Q', st, hq, h => wpC_mono x _ _ st (fun e s hs => by
      cases e with
      | normal => exact hq _ _ hs
      | exit id' =>
        simp only at hs ⊢
        split at hs
        · rename_i he; rw [if_pos he]; exact hq _ _ hs
        · rename_i he; rw [if_neg he]; exact hq _ _ hs
      | goto l => exact hq _ _ hs
      | ret => exact hq _ _ hs
      | panic ch => exact hq _ _ hs
      | outgrown => exact hq _ _ hs) h
  | .loop x, Q, Q', st, hq, h => by
    rcases h with ⟨n, h⟩ | ⟨I, h0, h1⟩
    · refine .inl ⟨n, ?_⟩
      have key : ∀ n st, loopN (wpC tab EQ C x) Q n st → loopN (wpC tab EQ C x) Q' n st := by
        intro n
        induction n with
        | zero => intro st h; exact h
        | succ n ih =>
          intro st h
          exact wpC_mono x _ _ _ (fun e s hs => by
            cases e with
            | normal => exact ih s hs
            | exit id => exact hq _ _ hs
            | goto l => exact hq _ _ hs
            | ret => exact hq _ _ hs
            | panic ch => exact hq _ _ hs
            | outgrown => exact hq _ _ hs) h
      exact key n st h
    refine .inr ⟨I, h0, fun n s hI => wpC_mono x _ _ _ (fun e s hs => by
      cases e with
      | normal => exact hs
      | exit id => exact let ⟨s', k1, k2⟩ := hs; ⟨s', k1, hq _ _ k2⟩
      | goto l => exact let ⟨s', k1, k2⟩ := hs; ⟨s', k1, hq _ _ k2⟩
      | ret => exact let ⟨s', k1, k2⟩ := hs; ⟨s', k1, hq _ _ k2⟩
      | panic ch => exact let ⟨s', k1, k2⟩ := hs; ⟨s', k1, hq _ _ k2⟩
      | outgrown => exact let ⟨s', k1, k2⟩ := hs; ⟨s', k1, hq _ _ k2⟩) (h1 n s hI)⟩
  | .exit id, Q, Q', st, hq, h => hq _ _ h
  | .ret, Q, Q', st, hq, h => hq _ _ h
  | .label l, Q, Q', st, hq, h => hq _ _ h
  | .goto _, Q, Q', st, hq, h => h.elim
  | .scope _, Q, Q', st, hq, h => h.elim
  | .refuse _, Q, Q', st, hq, h => h.elim
  | .rangeFunc .., Q, Q', st, hq, h => h.elim
def Blk.ro (b : Blk) : Blk := { rows := b.rows, w := b.w, ty := 0, own := false, cap := none }
/-- The state at a function's entry: the blocks that its arguments name are the blocks (0, 0), (1, 0), .. -/
def entry (bs : List Blk) (args : List AV) : St :=
  { slots := fun s => (args[s]?).getD .und, heap := fun n => match n.2 with
      | 0 => (bs[n.1]?).map Blk.ro
      | _ => none, gen := 1, k := bs.length }
def Cell.ren (ns : List Nm) : Cell → Cell
  | .ptr n row w col => .ptr (ns.getD n.1 (0, 0)) row w col
  | .slc n row w len cap => .slc (ns.getD n.1 (0, 0)) row w len cap
  | c => c
def AV.ren (ns : List Nm) : AV → AV
  | .und => .und
  | .c x => .c (x.ren ns)
  | .agg l => .agg (l.map (Cell.ren ns))
  | .fn f caps => .fn f (caps.map (Cell.ren ns))
  | .t2 a b => .t2 (a.ren ns) (b.ren ns)
  | .ext v => .ext v
/-- The names of the blocks that are handed over. -/
def handed (k : Nat) : Nm → Prop := fun n => n.2 = 0 ∧ n.1 < k
def envOf (ns : List Nm) (ν : Env) : Env := fun n => ν (ns.getD n.1 (0, 0))
theorem Cell.conc_ren {ns : List Nm} {ν : Env} {c : Cell} : (c.ren ns).conc ν = c.conc (envOf ns ν) := by cases c <;> rfl
theorem AV.conc_ren {ns : List Nm} {ν : Env} {v : AV} : (v.ren ns).conc ν = v.conc (envOf ns ν) := by
  have hl : ∀ l : List Cell, concs ν (l.map (Cell.ren ns)) = concs (envOf ns ν) l := by
    intro l
    unfold concs
    rw [List.map_map]
    congr 2
    funext c
    exact Cell.conc_ren
  induction v with
  | und => rfl
  | c x => exact Cell.conc_ren
  | agg l => simp only [AV.ren, AV.conc, hl]
  | fn f l => simp only [AV.ren, AV.conc, hl]
  | t2 a b iha ihb => simp only [AV.ren, AV.conc, iha, ihb]
  | ext v => rfl
def resV (tab : Tab) (st : St) : ResultVar → Option AV
  | .tmp t => match st.slots t with
    | .und => none
    | v => some v
  | .cell t ty => match tab ty, st.slots t with
    | some ti, .c (.ptr n row w col) => match st.heap n with
      | some blk => if blk.w = w then match blk.rows[row]? with
        | some r => cut ti.d.isAgg r col ti.sz
        | none => none else none
      | none => none
    | _, _ => none
def resA (tab : Tab) (st : St) : List ResultVar → Option AV
  | [x] => resV tab st x
  | [x, y] => match resV tab st x, resV tab st y with
    | some a, some b => some (.t2 a b)
    | _, _ => none
  | _ => none
def resSem (tmps : Array Value) : ResultVar → Sem Value
  | .tmp t => Pure.pure (tmps.getD t undef)
  | .cell p t => do loadVar t (← asAddr (tmps.getD p undef))
theorem bd_entry {bs : List Blk} {args : List AV} {n : Nm} : bd (entry bs args).heap n ↔ handed bs.length n := by
  unfold bd handed entry
  simp only
  split
  · rename_i h
    simp only [h, Option.isSome_map, true_and]
    rw [Option.isSome_iff_exists]
    constructor
    · rintro ⟨b, hb⟩
      exact (List.getElem?_eq_some_iff.1 hb).1
    · intro hl
      exact ⟨_, List.getElem?_eq_getElem hl⟩
  · rename_i h
    simp only [Option.isSome_none, Bool.false_eq_true, false_iff, not_and]
    intro h0
    exact absurd h0 h
theorem HRel.enter {h : Nm → Option Blk} {gen : Nat} (hh : HRel base w0 ν h gen w) {ns : List Nm} {bs : List Blk} (hns : ns.map h = bs.map some) (hplain : ∀ b ∈ bs, ∀ r ∈ b.rows, ∀ c ∈ r, Cell.ok (fun _ => False) c) {args : List AV} :
    HRel w.heap.size ⟨w, handed bs.length, envOf ns ν, []⟩ (envOf ns ν) (entry bs args).heap 1 w := by
  have hget : ∀ k b, bs[k]? = some b → h (ns.getD k (0, 0)) = some b := by
    intro k b hk
    have := congrArg (fun l => l[k]?) hns
    simp only [List.getElem?_map, hk, Option.map_some] at this
    cases hq : ns[k]? with
    | none => rw [hq] at this; cases this
    | some n =>
      rw [hq] at this
      simp only [Option.map_some, Option.some.injEq] at this
      rw [List.getD_eq_getElem?_getD, hq]
      exact this
  have hcase : ∀ n b, (entry bs args).heap n = some b → n.2 = 0 ∧ ∃ b', bs[n.1]? = some b' ∧ b = b'.ro := by
    intro n b hn
    unfold entry at hn
    simp only at hn
    split at hn
    · rename_i h0
      obtain ⟨b', hb, rfl⟩ := Option.map_eq_some_iff.1 hn
      exact ⟨h0, b', hb, rfl⟩
    · cases hn
  refine ⟨fun n blk hn => ?_, fun n n' blk blk' hn hn' ho _ _ _ => ?_, Below.refl _ _, fun n hn => ⟨hn.1, bd_entry.2 hn, rfl⟩, Nat.le_refl _, fun d g hg => ?_, KeepsOthers.refl _⟩
  · obtain ⟨h0, b, hb, rfl⟩ := hcase n blk hn
    have hB := hh.heap _ b (hget _ b hb)
    refine ⟨hB.width, fun row r j c hr hc => ?_, fun hs => ⟨(hB.nil hs).1, (hB.nil hs).2.1, fun c hc => by cases hc⟩, fun ho => by cases ho⟩
    have hp := hplain b (List.mem_of_getElem? hb) r (List.mem_of_getElem? hr) c (List.mem_of_getElem? hc)
    obtain ⟨h1, h2, h3⟩ := hB.read row r j c hr hc
    refine ⟨Cell.ok_mono (fun _ h => h.elim) hp, ?_, fun _ => ?_⟩
    · rw [Cell.conc_eq (D := fun _ => False) (ν := ν) (ν' := envOf ns ν) (fun _ h => h.elim) hp]
      exact h2
    · have := World.block_lt_of_cell? w _ h2
      have hbl : ((ν (ns.getD n.1 (0, 0))).1.add (row * b.w + j)).block = (ν (ns.getD n.1 (0, 0))).1.block := by unfold Addr.add; split <;> rfl
      rw [hbl] at this
      exact this
  · obtain ⟨h0, b, hb, rfl⟩ := hcase n blk hn
    cases ho
  · unfold entry
    simp only
    split
    · omega
    · rfl
theorem resV_sound (hT : TabOK P tab) (hR : Rel base w0 N ν st a w) {x : ResultVar} {v : AV} (h : resV tab st x = some v) : v.ok (bd st.heap) ∧ (resSem a.tmps x).run P w = .ok (v.conc ν) w := by
  cases x with
  | tmp t =>
    have hs := hR.slots t
    simp only [resV] at h
    split at h
    · cases h
    · rename_i hne
      injection h with h
      rw [← h]
      rcases hs with hs | ⟨h1, h2⟩
      · exact absurd hs hne
      · exact ⟨h1, by simp only [resSem, Sem.run_pure, h2]⟩
  | cell p ty =>
    simp only [resV] at h
    split at h
    · rename_i ti n row wd col hti hp
      split at h
      · rename_i blk hblk
        split at h
        · rename_i hw
          split at h
          · rename_i r hr
            subst hw
            obtain ⟨h1, h2⟩ := load_run hT hR.hr hti hblk hr h
            refine ⟨h1, ?_⟩
            have hs := hR.slots p
            rw [hp] at hs
            rcases hs with hs | ⟨-, hs⟩
            · cases hs
            · simp only [resSem, hs, AV.conc, Cell.conc, asAddr, Sem.run_bind, Sem.run_pure, Result.andThen, h2]
          · cases h
        · cases h
      · cases h
    · cases h
theorem results_eq (fn : Func) (tmps : Array Value) : results fn tmps = (do
    let vs ← fn.results.mapM (resSem tmps)
    pure (if h : vs.size = 1 then vs[0] else .tuple vs)) := by
  unfold results
  congr 1
theorem resA_sound (hT : TabOK P tab) (hR : Rel base w0 N ν st a w) {fn : Func} {v : AV} (h : resA tab st fn.results.toList = some v) : v.ok (bd st.heap) ∧ (results fn a.tmps).run P w = .ok (v.conc ν) w := by
  unfold resA at h
  split at h
  · rename_i x hx
    have hf : fn.results = #[x] := by rw [← Array.toArray_toList (xs := fn.results), hx]
    obtain ⟨h1, h2⟩ := resV_sound hT hR h
    refine ⟨h1, ?_⟩
    rw [results_eq, hf, Array.mapM_eq_mapM_toList]
    simp [h2]
  · rename_i x y hx
    have hf : fn.results = #[x, y] := by rw [← Array.toArray_toList (xs := fn.results), hx]
    split at h
    · rename_i u v' hu hv
      injection h with h
      subst h
      obtain ⟨h1, h2⟩ := resV_sound hT hR hu
      obtain ⟨h3, h4⟩ := resV_sound hT hR hv
      refine ⟨⟨h1, h3⟩, ?_⟩
      rw [results_eq, hf, Array.mapM_eq_mapM_toList]
      simp [h2, h4, AV.conc]
    · cases h
  · cases h
/-- A function's body, walked by the abstract machine, is what a call does. -/
theorem call_of_wpC (hT : TabOK P tab) (hE : EqOK P EQ) (hC : COK P C) (hm : P.follows .mixedOrders = true) {f : FuncId} {fn : Func} {c : Code} (hf : P.funcs[f]? = some fn) (hname : (fn.name == "runtime.NumGoroutine") = false) (hb : fn.body = some c) (hok : codeOK fn.ntmps c = true)
    {h : Nm → Option Blk} {gen : Nat} (hh : HRel base w0 ν h gen w) {ns : List Nm} {bs : List Blk} (hns : ns.map h = bs.map some) (hplain : ∀ b ∈ bs, ∀ r ∈ b.rows, ∀ c ∈ r, Cell.ok (fun _ => False) c)
    {args : List AV} (hargs : ∀ v ∈ args, v.ok (handed bs.length)) (hlen : args.length ≤ fn.ntmps)
    {R : AV → St → Prop} (hwp : wpC tab EQ C c (fun e st' => (e = .normal ∨ e = .ret) ∧ ∃ r, resA tab st' fn.results.toList = some r ∧ R r st') (entry bs args)) :
    CallSem P f ((args.map (AV.ren ns)).map (AV.conc ν)).toArray w (fun v w' => ∃ r st' ν', R r st' ∧ r.ok (bd st'.heap) ∧ v = r.conc ν' ∧ (∀ n, handed bs.length n → bd st'.heap n ∧ ν' n = envOf ns ν n) ∧ HRel w.heap.size ⟨w, handed bs.length, envOf ns ν, []⟩ ν' st'.heap st'.gen w') := by
  have hvals : ((args.map (AV.ren ns)).map (AV.conc ν)).toArray = (args.map (AV.conc (envOf ns ν))).toArray := by
    rw [List.map_map]
    congr 2
    funext v
    exact AV.conc_ren
  rw [hvals]
  refine .inl ⟨fn, hf, hname, by rw [hb]; rfl, ?_⟩
  refine (callsIn_wide (n := 3)).1 (callsIn_of_wp hf hb trivial ?_)
  have hR : Rel w.heap.size ⟨w, handed bs.length, envOf ns ν, []⟩ fn.ntmps (envOf ns ν) (entry bs args) { tmps := (args.map (AV.conc (envOf ns ν))).toArray ++ Array.replicate (fn.ntmps - (args.map (AV.conc (envOf ns ν))).toArray.size) undef, defers := [] } w := by
    refine ⟨rfl, by simp; omega, fun s => ?_, hh.enter hns hplain, fun n hn => hn.2⟩
    show RV (envOf ns ν) (bd (entry bs args).heap) _ ((args[s]?).getD .und)
    cases hs : args[s]? with
    | none => exact .inl rfl
    | some v =>
      refine .inr ⟨AV.ok_mono (fun n hn => bd_entry.2 hn) (hargs v (List.mem_of_getElem? hs)), ?_⟩
      have hlt : s < args.length := (List.getElem?_eq_some_iff.1 hs).1
      rw [Array.getD_eq_getD_getElem?, Array.getElem?_append_left (by simpa using hlt)]
      simp [hs]
  refine wpC_sound (ro := none) hT hE hC hm c _ _ _ (envOf ns ν) _ w hok hwp hR (fun e st' ν' a' w' hq hR' => ?_)
  obtain ⟨he, r, hr, hRr⟩ := hq
  obtain ⟨h1, h2⟩ := resA_sound hT hR' hr
  have hpost : ∃ v, Ending.returned (r.conc ν') = .returned v ∧ ∃ r st' ν', R r st' ∧ r.ok (bd st'.heap) ∧ v = r.conc ν' ∧ (∀ n, handed bs.length n → bd st'.heap n ∧ ν' n = envOf ns ν n) ∧ HRel w.heap.size ⟨w, handed bs.length, envOf ns ν, []⟩ ν' st'.heap st'.gen w' :=
    ⟨_, rfl, r, st', ν', hRr, h1, rfl, fun n hn => (hR'.hr.anc n hn).2, hR'.hr⟩
  rcases he with rfl | rfl
  · exact ⟨hR'.defers, _, h2, hpost⟩
  · exact ⟨hR'.defers, _, h2, hpost⟩
theorem CallSem.mono {f : FuncId} {args : Array Value} {R R' : Value → World → Prop} (h : CallSem P f args w R) (hr : ∀ v w', R v w' → R' v w') : CallSem P f args w R' := by
  rcases h with ⟨fn, h1, h2, h3, h4⟩ | ⟨v, w', h1, h2⟩
  · exact .inl ⟨fn, h1, h2, h3, h4.mono fun e w' ⟨v, he, hv⟩ => ⟨v, he, hr v w' hv⟩⟩
  · exact .inr ⟨v, w', h1, hr _ _ h2⟩
end
end Go.AbsK

namespace Go.AbsK
open Go.RowKit

def eqVC : Value → Cell → Bool
  | .bool x, .b y => x == y
  | .int k n, .i k' m => decide (k = k') && decide (n = m)
  | .slice none 0 0, .nils => true
  | .pointer none, .nilp => true
  | .string x, .str y => decide (x = y)
  | _, _ => false
theorem eqVC_spec (ν : Env) {v : Value} {c : Cell} (h : eqVC v c = true) : v = c.conc ν ∧ c.ok (fun _ => False) := by
  unfold eqVC at h
  split at h
  · simp only [beq_iff_eq] at h; subst h; exact ⟨rfl, trivial⟩
  · simp only [Bool.and_eq_true, decide_eq_true_eq] at h; obtain ⟨rfl, rfl⟩ := h; exact ⟨rfl, trivial⟩
  · exact ⟨rfl, trivial⟩
  · exact ⟨rfl, trivial⟩
  · simp only [decide_eq_true_eq] at h; subst h; exact ⟨rfl, trivial⟩
  · cases h
def eqVCs : List Value → List Cell → Bool
  | [], [] => true
  | v :: vs, c :: cs => eqVC v c && eqVCs vs cs
  | _, _ => false
theorem eqVCs_spec (ν : Env) : ∀ {vs : List Value} {cs : List Cell}, eqVCs vs cs = true → vs = cs.map (·.conc ν) ∧ ∀ c ∈ cs, c.ok (fun _ => False)
  | [], [], _ => ⟨rfl, fun c hc => by cases hc⟩
  | v :: vs, c :: cs, h => by
    simp only [eqVCs, Bool.and_eq_true] at h
    obtain ⟨h1, h2⟩ := eqVC_spec ν h.1
    obtain ⟨h3, h4⟩ := eqVCs_spec ν h.2
    refine ⟨by rw [h1, h3]; rfl, fun d hd => ?_⟩
    rcases List.mem_cons.1 hd with rfl | hd
    · exact h2
    · exact h4 d hd
  | [], _ :: _, h => by cases h
  | _ :: _, [], h => by cases h
def isAggV : Value → Bool
  | .agg _ => true
  | _ => false
def sizeIs (P : Program) (t sz : Nat) : Bool := match P.info? t with
  | some inf => decide (inf.size = sz)
  | none => false
def aggIs (P : Program) (t : Nat) (ag : Bool) : Bool := match P.underlying t with
  | some d => isAggD d == ag
  | none => false
def fieldsChk (P : Program) : List Field → List (Nat × Nat × Bool) → Bool
  | [], [] => true
  | f :: fs, g :: gs => decide (f.offset = g.1) && decide (0 < g.2.1) && sizeIs P f.type g.2.1 && aggIs P f.type g.2.2 && fieldsChk P fs gs
  | _, _ => false
def undChk (P : Program) (t : TypeId) (d : TD) : Bool := match d, P.underlying t with
  | .int k, some (.int k') => decide (k = k')
  | .bool, some .bool => true
  | .scalar, some d => isAggD d == false
  | .string, some .string => true
  | .struct fs, some (.struct fields) => fieldsChk P fields.toList fs
  | .array len esz ag, some (.array len' e) => decide (len = len') && sizeIs P e esz && aggIs P e ag
  | .slice e, some (.slice e') => decide (e = e')
  | _, _ => false
def tiChk (P : Program) (t : TypeId) (ti : TI) : Bool :=
  (match P.info? t with
  | some inf => decide (inf.size = ti.sz) && decide (inf.bytes = ti.by_) && (match inf.zero with
    | some z => eqVCs z.cells.toList ti.zero && (!ti.d.isAgg || isAggV z)
    | none => false)
  | none => false) && decide (ti.zero.length = ti.sz) && undChk P t ti.d
theorem sizeIs_spec {P : Program} {t sz : Nat} (h : sizeIs P t sz = true) : ∃ inf, P.info? t = some inf ∧ inf.size = sz := by
  unfold sizeIs at h
  split at h
  · rename_i inf hi; exact ⟨inf, hi, by simpa using h⟩
  · cases h
theorem aggIs_spec {P : Program} {t : Nat} {ag : Bool} (h : aggIs P t ag = true) : ∃ d, P.underlying t = some d ∧ isAggD d = ag := by
  unfold aggIs at h
  split at h
  · rename_i d hi; exact ⟨d, hi, by simpa using h⟩
  · cases h
theorem fieldsChk_spec {P : Program} : ∀ {l : List Field} {fs : List (Nat × Nat × Bool)}, fieldsChk P l fs = true → l.length = fs.length ∧ ∀ (j : Nat) (f : Field), l[j]? = some f →
    ∃ off sz ag, fs[j]? = some (off, sz, ag) ∧ f.offset = off ∧ 0 < sz ∧ (∃ inf, P.info? f.type = some inf ∧ inf.size = sz) ∧ (∃ d, P.underlying f.type = some d ∧ isAggD d = ag)
  | [], [], _ => ⟨rfl, fun j f hf => by simp at hf⟩
  | f :: l, (off, sz, ag) :: fs, h => by
    simp only [fieldsChk, Bool.and_eq_true, decide_eq_true_eq] at h
    obtain ⟨⟨⟨⟨h1, h2⟩, h3⟩, h4⟩, h5⟩ := h
    obtain ⟨h6, h7⟩ := fieldsChk_spec h5
    refine ⟨by simp [h6], fun j f' hf => ?_⟩
    cases j with
    | zero =>
      simp only [List.getElem?_cons_zero, Option.some.injEq] at hf
      subst hf
      exact ⟨off, sz, ag, rfl, h1, h2, sizeIs_spec h3, aggIs_spec h4⟩
    | succ j => exact h7 j f' hf
  | [], _ :: _, h => by cases h
  | _ :: _, [], h => by cases h
theorem tiChk_spec {P : Program} {t : TypeId} {ti : TI} (h : tiChk P t ti = true) : TIok P t ti := by
  unfold tiChk at h
  simp only [Bool.and_eq_true, decide_eq_true_eq] at h
  obtain ⟨⟨h1, h2⟩, h3⟩ := h
  split at h1
  rotate_left
  · cases h1
  rename_i inf hi
  simp only [Bool.and_eq_true, decide_eq_true_eq] at h1
  obtain ⟨⟨h4, h5⟩, h6⟩ := h1
  split at h6
  rotate_left
  · cases h6
  rename_i z hz
  simp only [Bool.and_eq_true] at h6
  obtain ⟨h7, h8⟩ := h6
  obtain ⟨h9, h10⟩ := eqVCs_spec (fun _ => (⟨0, 0, none⟩, 0)) h7
  refine ⟨⟨inf, hi, h4, h5, z, hz, ?_, fun ha => ?_⟩, h2, h10, ?_⟩
  · rw [← Array.toArray_toList (xs := z.cells), h9]; rfl
  · rw [ha] at h8
    simp only [Bool.not_true, Bool.false_or] at h8
    cases z <;> simp [isAggV] at h8
    rfl
  · unfold undChk at h3
    split at h3
    · rename_i k k' hd hu
      simp only [decide_eq_true_eq] at h3
      subst h3
      rw [hd]; exact hu
    · rename_i hd hu
      rw [hd]; exact hu
    · rename_i d hd hu
      rw [hd]; exact ⟨d, hu, by simpa using h3⟩
    · rename_i hd hu
      rw [hd]; exact hu
    · rename_i fs fields hd hu
      rw [hd]
      obtain ⟨g1, g2⟩ := fieldsChk_spec h3
      exact ⟨fields, hu, by simpa using g1, fun j f hf => g2 j f (by simpa using hf)⟩
    · rename_i len esz ag len' e hd hu
      simp only [Bool.and_eq_true, decide_eq_true_eq] at h3
      obtain ⟨⟨rfl, g2⟩, g3⟩ := h3
      rw [hd]
      exact ⟨e, hu, sizeIs_spec g2, aggIs_spec g3⟩
    · rename_i e e' hd hu
      simp only [decide_eq_true_eq] at h3
      subst h3
      rw [hd]; exact hu
    · cases h3
def tabOf (l : List (Nat × TI)) : Tab := fun t => (l.find? (fun p => p.1 == t)).map (·.2)
theorem tabOf_ok {P : Program} {l : List (Nat × TI)} (h : l.all (fun p => tiChk P p.1 p.2) = true) : TabOK P (tabOf l) := by
  intro t ti hq
  unfold tabOf at hq
  obtain ⟨p, hp, rfl⟩ := Option.map_eq_some_iff.1 hq
  have h1 := List.all_eq_true.1 h p (List.mem_of_find?_eq_some hp)
  have h2 := List.find?_some hp
  simp only [beq_iff_eq] at h2
  subst h2
  exact tiChk_spec h1
end Go.AbsK

namespace Go.AbsK
open Go.RowKit

def fieldsShp (P : Program) (rec : TypeId → Option Shp) : List Field → Nat → Option Shp
  | [], _ => some []
  | f :: fs, off => if f.name == "_" || f.offset != off then none else
    match rec f.type with
    | none => none
    | some sh => if sizeIs P f.type sh.length && decide (0 < sh.length) then
      match fieldsShp P rec fs (off + sh.length) with
      | some r => some (sh ++ r)
      | none => none
      else none
def shpOf (P : Program) : Nat → TypeId → Option Shp
  | 0, _ => none
  | d + 1, t => match P.underlying t with
    | some (.int k) => some [some k]
    | some .bool => some [none]
    | some (.struct fs) => if P.stoodInHeld t then none else fieldsShp P (shpOf P d) fs.toList 0
    | _ => none
theorem eqCells_app : ∀ {s1 s2 : Shp} {x y : List Cell} {r : Bool}, eqCells (s1 ++ s2) x y = some r → ∃ r1 r2, eqCells s1 (x.take s1.length) (y.take s1.length) = some r1 ∧ eqCells s2 (x.drop s1.length) (y.drop s1.length) = some r2 ∧ r = (r1 && r2)
  | [], s2, x, y, r, h => ⟨true, r, by simp [eqCells], by simpa using h, by simp⟩
  | s :: s1, s2, [], y, r, h => by simp [eqCells] at h
  | s :: s1, s2, x :: xs, [], r, h => by simp [eqCells] at h
  | s :: s1, s2, x :: xs, y :: ys, r, h => by
    simp only [List.cons_append, eqCells] at h
    split at h
    · rename_i a b ha hb
      obtain ⟨r1, r2, h1, h2, h3⟩ := eqCells_app hb
      injection h with h
      refine ⟨a && r1, r2, ?_, by simpa using h2, by rw [← h, h3, Bool.and_assoc]⟩
      simp only [List.length_cons, List.take_succ_cons, eqCells, ha, h1]
    · cases h
theorem eqCells_len : ∀ {s : Shp} {x y : List Cell} {r : Bool}, eqCells s x y = some r → x.length = s.length ∧ y.length = s.length
  | [], [], [], _, _ => ⟨rfl, rfl⟩
  | s :: sh, x :: xs, y :: ys, r, h => by
    simp only [eqCells] at h
    split at h
    · rename_i a b ha hb
      obtain ⟨h1, h2⟩ := eqCells_len hb
      simp [h1, h2]
    · cases h
  | [], _ :: _, _, _, h => by simp [eqCells] at h
  | [], [], _ :: _, _, h => by simp [eqCells] at h
  | _ :: _, [], _, _, h => by simp [eqCells] at h
  | _ :: _, _ :: _, [], _, h => by simp [eqCells] at h
/-- The value of a flat type with these cells. -/
def Flat (P : Program) (t : TypeId) (ν : Env) (x : List Cell) (v : Value) : Prop :=
  (aggIs P t true = true ∧ v = .agg (concs ν x)) ∨ (aggIs P t false = true ∧ ∃ c, x = [c] ∧ v = c.conc ν)
theorem part_flat {P : Program} {t : TypeId} {X : List Cell} {off : Nat} {ν : Env} {w : World} {n : Nat} (hs : sizeIs P t n = true) (hag : aggIs P t true = true ∨ (aggIs P t false = true ∧ n = 1)) (hl : off + n ≤ X.length) :
    ∃ v, (part t (concs ν X) off).run P w = .ok v w ∧ Flat P t ν ((X.drop off).take n) v := by
  obtain ⟨inf, h1, h2⟩ := sizeIs_spec hs
  rcases hag with hag | ⟨hag, rfl⟩
  · obtain ⟨d, h3, h4⟩ := aggIs_spec hag
    refine ⟨.agg (concs ν ((X.drop off).take n)), ?_, .inl ⟨hag, rfl⟩⟩
    exact run_part h1 h2 h3 h4 (r := .agg ((X.drop off).take n)) (by unfold cut; rw [if_pos rfl, if_pos hl]) ν w
  · obtain ⟨d, h3, h4⟩ := aggIs_spec hag
    have hg : X[off]? = some X[off] := List.getElem?_eq_getElem (by omega)
    refine ⟨X[off].conc ν, ?_, .inr ⟨hag, X[off], ?_, rfl⟩⟩
    · exact run_part h1 h2 h3 h4 (r := .c X[off]) (by unfold cut; simp [hg]) ν w
    · rw [List.drop_eq_getElem_cons (by omega)]
      rfl
theorem shp_pos {P : Program} {d : Nat} {t : TypeId} {sh : Shp} (h : shpOf P d t = some sh) : aggIs P t true = true ∨ (aggIs P t false = true ∧ sh.length = 1) := by
  cases d with
  | zero => cases h
  | succ d =>
    unfold shpOf at h
    unfold aggIs
    split at h
    · rename_i k hk; injection h with h; subst h; rw [hk]; exact .inr ⟨rfl, rfl⟩
    · rename_i hk; injection h with h; subst h; rw [hk]; exact .inr ⟨rfl, rfl⟩
    · rename_i fs hk; rw [hk]; exact .inl rfl
    · cases h
theorem fields_sound {P : Program} {d : Nat} (ih : ∀ t sh, shpOf P d t = some sh → ∀ (x y : List Cell) (r : Bool) (ν : Env) (w : World) (u v : Value), eqCells sh x y = some r → Flat P t ν x u → Flat P t ν y v → (Op.equalIn d t u v).run P w = .ok r w) :
    ∀ (fs : List Field) (off : Nat) (sh : Shp) (X Y : List Cell) (r : Bool) (ν : Env) (w : World), fieldsShp P (shpOf P d) fs off = some sh → eqCells sh (X.drop off) (Y.drop off) = some r → (Op.eqFields d (concs ν X) (concs ν Y) fs).run P w = .ok r w
  | [], off, sh, X, Y, r, ν, w, h, hr => by
    simp only [fieldsShp, Option.some.injEq] at h
    subst h
    cases hx : X.drop off <;> cases hy : Y.drop off <;> rw [hx, hy] at hr <;> simp [eqCells] at hr
    subst hr
    simp [Op.eqFields]
  | f :: fs, off, sh, X, Y, r, ν, w, h, hr => by
    unfold fieldsShp at h
    split at h
    · cases h
    rename_i hn
    simp only [Bool.or_eq_true, not_or, beq_iff_eq, bne_iff_ne, ne_eq, Decidable.not_not] at hn
    split at h
    · cases h
    rename_i s1 hs1
    split at h
    rotate_left
    · cases h
    rename_i hsz
    simp only [Bool.and_eq_true, decide_eq_true_eq] at hsz
    obtain ⟨hsz, hpos⟩ := hsz
    split at h
    rotate_left
    · cases h
    rename_i s2 hs2
    injection h with h
    subst h
    obtain ⟨r1, r2, h1, h2, h3⟩ := eqCells_app hr
    obtain ⟨l1, l2⟩ := eqCells_len hr
    rw [List.length_drop, List.length_append] at l1 l2
    rw [List.drop_drop, List.drop_drop] at h2
    have hrec := fields_sound ih fs (off + s1.length) s2 X Y r2 ν w hs2 h2
    obtain ⟨u, k1, k2⟩ := part_flat (X := X) (off := off) (ν := ν) (w := w) hsz (shp_pos hs1) (by omega)
    obtain ⟨v, k3, k4⟩ := part_flat (X := Y) (off := off) (ν := ν) (w := w) hsz (shp_pos hs1) (by omega)
    have he := ih f.type s1 hs1 _ _ r1 ν w u v h1 k2 k4
    have hn' : f.name ≠ "_" := by intro e; exact hn.1 e
    rw [Op.eqFields]
    simp only [if_pos hn', Sem.run_bind, hn.2, k1, k3, he, Result.andThen_ok, h3]
    cases r1
    · simp
    · simpa using hrec
theorem eqCells_one {s : Option IntKind} {x y : Cell} {r : Bool} (h : eqCells [s] [x] [y] = some r) : eqCell s x y = some r := by
  simp only [eqCells] at h
  split at h
  · rename_i a b ha hb
    injection h with h
    simp only [Option.some.injEq] at hb
    rw [ha, ← h, ← hb, Bool.and_true]
  · cases h
theorem shp_sound {P : Program} : ∀ (d : Nat) (t : TypeId) (sh : Shp), shpOf P d t = some sh → ∀ (x y : List Cell) (r : Bool) (ν : Env) (w : World) (u v : Value), eqCells sh x y = some r → Flat P t ν x u → Flat P t ν y v → (Op.equalIn d t u v).run P w = .ok r w
  | 0, t, sh, h => by cases h
  | d + 1, t, sh, h => by
    intro x y r ν w u v hr hx hy
    unfold shpOf at h
    split at h
    · rename_i k hk
      injection h with h
      subst h
      rcases hx with ⟨hx, -⟩ | ⟨-, cx, rfl, rfl⟩
      · unfold aggIs at hx; rw [hk] at hx; cases hx
      rcases hy with ⟨hy, -⟩ | ⟨-, cy, rfl, rfl⟩
      · unfold aggIs at hy; rw [hk] at hy; cases hy
      have hq := eqCells_one hr
      unfold eqCell at hq
      split at hq
      · rename_i heq; cases heq
      · rename_i k1 m k2 n _
        split at hq
        · rename_i hkk
          subst hkk
          injection hq with hq
          subst hq
          rw [Op.equalIn]
          simp only [Sem.run_bind, run_underlying hk, Result.andThen_ok, Cell.conc]
          simp
        · cases hq
      · cases hq
    · rename_i hk
      injection h with h
      subst h
      rcases hx with ⟨hx, -⟩ | ⟨-, cx, rfl, rfl⟩
      · unfold aggIs at hx; rw [hk] at hx; cases hx
      rcases hy with ⟨hy, -⟩ | ⟨-, cy, rfl, rfl⟩
      · unfold aggIs at hy; rw [hk] at hy; cases hy
      have hq := eqCells_one hr
      unfold eqCell at hq
      split at hq
      · rename_i m n _
        injection hq with hq
        subst hq
        rw [Op.equalIn]
        simp only [Sem.run_bind, run_underlying hk, Result.andThen_ok, Cell.conc]
        simp
      · rename_i heq; cases heq
      · cases hq
    · rename_i fs hk
      split at h
      · cases h
      rename_i hs
      rcases hx with ⟨-, rfl⟩ | ⟨hx, -⟩
      rotate_left
      · unfold aggIs at hx; rw [hk] at hx; cases hx
      rcases hy with ⟨-, rfl⟩ | ⟨hy, -⟩
      rotate_left
      · unfold aggIs at hy; rw [hk] at hy; cases hy
      have hf : P.fieldsOf t = fs := by simp [Program.fieldsOf, hk]
      rw [run_equalIn_struct (P := P) w d t _ _ (by rw [hf]; exact hk) (by simpa using hs), hf]
      exact fields_sound (fun t sh h => shp_sound d t sh h) fs.toList 0 sh x y r ν w h (by simpa using hr)
    · cases h
def eqChk (P : Program) (t : TypeId) (sh : Shp) : Bool :=
  (match shpOf P 100 t with
  | some s => decide (s = sh)
  | none => false) && aggIs P t true && !(P.eqGuardType P.depth t)
theorem shp_more {P : Program} : ∀ {d : Nat} {t : TypeId} {sh : Shp}, shpOf P d t = some sh → shpOf P (d + 1) t = some sh
  | 0, t, sh, h => by cases h
  | d + 1, t, sh, h => by
    have hf : ∀ (fs : List Field) (off : Nat) (s : Shp), fieldsShp P (shpOf P d) fs off = some s → fieldsShp P (shpOf P (d + 1)) fs off = some s := by
      intro fs
      induction fs with
      | nil => intro off s h; exact h
      | cons f fs ih =>
        intro off s h
        unfold fieldsShp at h ⊢
        split at h
        · cases h
        rename_i hn
        rw [if_neg hn]
        split at h
        · cases h
        rename_i s1 hs1
        rw [shp_more hs1]
        simp only
        split at h
        rotate_left
        · cases h
        rename_i hsz
        rw [if_pos hsz]
        split at h
        rotate_left
        · cases h
        rename_i s2 hs2
        rw [ih _ _ hs2]
        exact h
    unfold shpOf at h ⊢
    split at h
    · exact h
    · exact h
    · split at h
      · cases h
      rename_i hs
      rw [if_neg hs]
      exact hf _ _ _ h
    · cases h
theorem shp_le {P : Program} {d d' : Nat} {t : TypeId} {sh : Shp} (h : shpOf P d t = some sh) (hd : d ≤ d') : shpOf P d' t = some sh := by
  induction hd with
  | refl => exact h
  | step _ ih => exact shp_more ih
theorem eqChk_spec {P : Program} {t : TypeId} {sh : Shp} (h : eqChk P t sh = true) (x y : List Cell) (r : Bool) (ν : Env) (w : World) (hr : eqCells sh x y = some r) :
    (eqGuard .eql t (.tmp 0) (.tmp 0) (.agg (concs ν x)) (.agg (concs ν y))).run P w = .ok () w ∧ (Op.equal t (.agg (concs ν x)) (.agg (concs ν y))).run P w = .ok r w := by
  unfold eqChk at h
  simp only [Bool.and_eq_true, Bool.not_eq_true'] at h
  obtain ⟨⟨h1, h2⟩, h3⟩ := h
  split at h1
  rotate_left
  · cases h1
  rename_i s hs
  simp only [decide_eq_true_eq] at h1
  subst h1
  refine ⟨?_, ?_⟩
  · unfold eqGuard
    have hp : ∀ w', (Sem.program Sem.pure).run P w' = .ok P w' := fun _ => rfl
    simp [program, hp, h3]
  · exact shp_sound 10000 t s (shp_le hs (by omega)) x y r ν w _ _ hr (.inl ⟨h2, rfl⟩) (.inl ⟨h2, rfl⟩)
def eqOf (l : List (Nat × Shp)) : TypeId → Option Shp := fun t => (l.find? (fun p => p.1 == t)).map (·.2)
theorem eqOf_ok {P : Program} {l : List (Nat × Shp)} (h : l.all (fun p => eqChk P p.1 p.2) = true) : EqOK P (eqOf l) := by
  intro t sh hq x y r ν w hr
  unfold eqOf at hq
  obtain ⟨p, hp, rfl⟩ := Option.map_eq_some_iff.1 hq
  have h1 := List.all_eq_true.1 h p (List.mem_of_find?_eq_some hp)
  have h2 := List.find?_some hp
  simp only [beq_iff_eq] at h2
  subst h2
  exact eqChk_spec h1 x y r ν w hr
end Go.AbsK

namespace Go.AbsK
open Go.RowKit

/-- An oracle: out of the arguments and the blocks that they name: a condition, the result, the new blocks. -/
abbrev POfn := List AV → List Blk → (Nat → Nm) → Option (Prop × AV × List (Nm × Blk))
/-- What O says of function f is true of the program. -/
structure FOK (P : Program) (f : FuncId) (O : POfn) : Prop where
  sem : ∀ args bs mk p r nb, O args bs mk = some (p, r, nb) → p → ∀ (h : Nm → Option Blk) (base : Nat) (ν : Env) (w : World) (w0 : Anch) (gen : Nat), MkOK mk gen → HRel base w0 ν h gen w →
    (namesOf args).map h = bs.map some → (∀ v ∈ args, v.ok (bd h)) → (∀ p ∈ nb, h p.1 = none) →
    CallSem P f (args.map (AV.conc ν)).toArray w (CallPost h ν w r nb)
  names : ∀ args bs mk p r nb, O args bs mk = some (p, r, nb) → p → ∀ q ∈ nb, ∃ j, q.1 = mk j
/-- All that is known of the program's functions. -/
def allC (P : Program) : Orc := fun f args bs mk r nb => ∃ O, FOK P f O ∧ ∃ p, O args bs mk = some (p, r, nb) ∧ p
theorem cok_all (P : Program) : COK P (allC P) := fun f =>
  ⟨fun args bs mk r nb ⟨O, hO, p, h1, h2⟩ => hO.sem args bs mk p r nb h1 h2, fun args bs mk r nb ⟨O, hO, p, h1, h2⟩ => hO.names args bs mk p r nb h1 h2⟩
def plainV (v : AV) : Prop := v.ok (fun _ => False)
theorem plain_eq {ν ν' : Env} {v : AV} (h : plainV v) : v.conc ν' = v.conc ν := AV.conc_eq (D := fun _ => False) (fun _ h => h.elim) h
theorem map_same {α : Type} {f : α → α} : ∀ {l : List α}, (∀ x ∈ l, f x = x) → l.map f = l
  | [], _ => rfl
  | x :: l, h => by rw [List.map_cons, h x (List.mem_cons_self ..), map_same (l := l) (fun y hy => h y (List.mem_cons_of_mem _ hy))]
theorem Cell.ren_plain {ns : List Nm} {c : Cell} (h : c.ok (fun _ => False)) : c.ren ns = c := by
  cases c <;> first | rfl | exact h.elim
theorem ren_plain {ns : List Nm} {v : AV} (h : plainV v) : v.ren ns = v := by
  have hl : ∀ l : List Cell, (∀ c ∈ l, c.ok (fun _ => False)) → l.map (Cell.ren ns) = l := by
    intro l hl
    exact map_same (fun c hc => Cell.ren_plain (hl c hc))
  unfold plainV at h
  induction v with
  | und => rfl
  | c x => simp only [AV.ren, Cell.ren_plain (c := x) h]
  | agg l => simp only [AV.ren, hl l h]
  | fn f l => simp only [AV.ren, hl l h]
  | t2 a b iha ihb => simp only [AV.ren, iha h.1, ihb h.2]
  | ext v => rfl
end Go.AbsK

