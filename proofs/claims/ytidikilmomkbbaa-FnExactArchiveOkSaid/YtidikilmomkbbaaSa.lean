/- Part Sa of a proof: every text below is one step of it; what the last part proves is said there. -/
import GoSem.Step
import Derived.Orders
import Derived.Calls
import Derived.Laws.Sem
import Derived.Laws.World
import Derived.Laws.Cells
import Derived.Tactics
import Derived.Laws.StructEq
import Derived.Lib.Strings
import Derived.Laws.BytesArg
import Derived.Laws.Slices
import Derived.Laws.IdiomStrings
import Derived.Laws.MakeOwn
import Derived.Great.BuildSlice
import Derived.Laws.AppendOwn

/- A pure interpreter of Go.Code over typed values: definitions. -/
namespace Go.Sx

mutual
inductive Ty where
  | int (k : IntKind) | bool | str | sl (r : Row)
inductive Row where
  | one (t : Ty) | cons (t : Ty) (r : Row)
end

mutual
def Ty.decEq : (a b : Ty) → Decidable (a = b)
  | .int k, .int l => if h : k = l then .isTrue (by rw [h]) else .isFalse (by intro e; injection e; contradiction)
  | .bool, .bool => .isTrue rfl
  | .str, .str => .isTrue rfl
  | .sl r, .sl s => match Row.decEq r s with
    | .isTrue h => .isTrue (by rw [h])
    | .isFalse h => .isFalse (by intro e; injection e; contradiction)
  | .int _, .bool | .int _, .str | .int _, .sl _ | .bool, .int _ | .bool, .str | .bool, .sl _ | .str, .int _ | .str, .bool | .str, .sl _
  | .sl _, .int _ | .sl _, .bool | .sl _, .str => .isFalse (by intro e; cases e)
def Row.decEq : (a b : Row) → Decidable (a = b)
  | .one t, .one u => match Ty.decEq t u with
    | .isTrue h => .isTrue (by rw [h])
    | .isFalse h => .isFalse (by intro e; injection e; contradiction)
  | .cons t r, .cons u s => match Ty.decEq t u, Row.decEq r s with
    | .isTrue h, .isTrue h' => .isTrue (by rw [h, h'])
    | .isFalse h, _ => .isFalse (by intro e; injection e; contradiction)
    | _, .isFalse h => .isFalse (by intro e; injection e; contradiction)
  | .one _, .cons _ _ | .cons _ _, .one _ => .isFalse (by intro e; cases e)
end
instance : DecidableEq Ty := Ty.decEq
instance : DecidableEq Row := Row.decEq

mutual
def Ty.den : Ty → Type
  | .int _ => Int
  | .bool => Bool
  | .str => ByteArray
  | .sl r => List r.den
def Row.den : Row → Type
  | .one t => t.den
  | .cons t r => t.den × r.den
end

mutual
def Ty.zero : (t : Ty) → t.den
  | .int _ => (0 : Int)
  | .bool => false
  | .str => ByteArray.empty
  | .sl _ => []
def Row.zero : (r : Row) → r.den
  | .one t => t.zero
  | .cons t r => (t.zero, r.zero)
end

def Row.size : Row → Nat
  | .one _ => 1
  | .cons _ r => r.size + 1

/-- A cell of a row. -/
def Row.cell : (r : Row) → r.den → Nat → Option ((t : Ty) × t.den)
  | .one t, x, 0 => some ⟨t, x⟩
  | .one _, _, _ + 1 => none
  | .cons t _, x, 0 => some ⟨t, x.1⟩
  | .cons _ r, x, j + 1 => r.cell x.2 j

def Row.put : (r : Row) → r.den → Nat → (t : Ty) → t.den → Option r.den
  | .one t, _, 0, u, y => if h : u = t then some (h ▸ y) else none
  | .one _, _, _ + 1, _, _ => none
  | .cons t _, x, 0, u, y => if h : u = t then some (h ▸ y, x.2) else none
  | .cons _ r, x, j + 1, u, y => (r.put x.2 j u y).map fun z => (x.1, z)

inductive CapV where
  | int (k : IntKind) (n : Int) | bool (b : Bool) | str (s : ByteArray) | ref (n : Nat) | ptr (n off : Nat)

/-- The value of one cell. 'emp': a slice without room. 'ref n': the whole of row n; 'sub': a part of it; 'lit': read out of a row's cell (of which row, if that may be written; where it lies there). -/
inductive BV where
  | undef
  | int (k : IntKind) (n : Int) | bool (b : Bool) | str (s : ByteArray)
  | ref (n : Nat) | sub (n lo len : Nat)
  | lit (src : Option Nat) (home : Option (Nat × Nat)) (r : Row) (xs : List r.den)
  | ptrB (n off : Nat) | ptrE (n i j : Nat) | ptrL (src : Option Nat) (r : Row) (x : r.den) (j : Nat) | nilp | emp (r : Row)
  | fn (f : FuncId) (caps : List CapV)

inductive CV where
  | v (b : BV) | agg (cs : List BV)
inductive TV where
  | c (x : CV) | tup (xs : List CV)

@[reducible] def TV.undef : TV := .c (.v .undef)

structure Arr where
  row : Row
  own : Bool
  nest : Bool
  virt : Bool
  fix : Bool
  hole : Option (Nat × Nat)
  rows : List row.den

inductive Ent where
  | gone | box (cells : List BV) | arr (a : Arr)

structure St where
  tmps : List TV
  heap : List Ent

def Arr.mk' (own : Bool) (r : Row) (xs : List r.den) : Arr := { row := r, own := own, nest := false, virt := false, fix := false, hole := none, rows := xs }
def Arr.nil (r : Row) : Arr := { row := r, own := true, nest := false, virt := true, fix := false, hole := none, rows := [] }
def Arr.plain (a : Arr) : Bool := !a.nest && !a.hole.isSome

/-! the types -/
def mkRow : List Ty → Option Row
  | [] => none
  | [t] => some (.one t)
  | t :: u :: l => (mkRow (u :: l)).map (.cons t)

/-- The cells of a type. -/
def tysOf (P : Program) : Nat → TypeId → Option (List Ty)
  | 0, _ => none
  | n + 1, t => match P.underlying t with
    | some (.int k) => some [.int k]
    | some .bool => some [.bool]
    | some .string => some [.str]
    | some (.slice e) => match tysOf P n e with
      | some l => (mkRow l).map fun r => [.sl r]
      | none => none
    | some (.struct fs) => fs.toList.foldr (fun f acc => match tysOf P n f.type, acc with
      | some a, some b => some (a ++ b)
      | _, _ => none) (some [])
    | some (.array m e) => (tysOf P n e).map fun l => (List.replicate m l).flatten
    | _ => none

def rowOf (P : Program) (e : TypeId) : Option Row := (tysOf P 6 e).bind mkRow

end Go.Sx

/- A pure interpreter of Go.Code over typed values: the operations. -/
namespace Go.Sx

/-! bytes and strings -/
def bytesI (s : ByteArray) : List Int := s.data.toList.map fun b => (b.toNat : Int)
/-- (Derived.Laws.BytesArg has the same under the name strOfNums.) -/
def strOf (xs : List Int) : ByteArray := ⟨(xs.map fun n => UInt8.ofNat n.toNat).toArray⟩
def bt (s : ByteArray) (i : Nat) : Int := ((s.data.toList.getD i 0).toNat : Int)
def strLt (x y : ByteArray) : Bool := Op.bytesLess x.data.toList y.data.toList
def strEq (x y : ByteArray) : Bool := decide (x = y)
def bitOp (op : BinOp) (k : IntKind) (x y : Int) : Int :=
  let a := BitVec.ofInt k.bits x
  let b := BitVec.ofInt k.bits y
  match op with
  | .and => k.wrap (a &&& b).toNat
  | .or => k.wrap (a ||| b).toNat
  | _ => k.wrap (a ^^^ b).toNat

/-- The most elements of a slice, bytes of a string. -/
abbrev most : Nat := 4294967296

structure Delta where
  val : TV := .undef
  sets : List (Nat × Ent) := []
  kills : List Nat := []
  litk : List Nat := []

/-! names -/
def BV.known : BV → Bool | .undef => false | _ => true
def CapV.names : CapV → List Nat
  | .ref n | .ptr n _ => [n]
  | _ => []
def BV.names : BV → List Nat
  | .ref n | .sub n _ _ | .ptrB n _ | .ptrE n _ _ => [n]
  | .lit (some n) _ _ _ => [n]
  | .ptrL (some n) _ _ _ => [n]
  | .fn _ caps => caps.flatMap CapV.names
  | _ => []
def CV.cells : CV → List BV
  | .v b => [b]
  | .agg cs => cs
def TV.cells : TV → List BV
  | .c x => x.cells
  | .tup xs => xs.flatMap CV.cells
def TV.names (v : TV) : List Nat := v.cells.flatMap BV.names

def BV.hit (ks lk : List Nat) : BV → Bool
  | .ref n | .sub n _ _ | .ptrE n _ _ | .ptrB n _ => ks.contains n
  | .lit (some n) _ _ _ => ks.contains n || lk.contains n
  | .ptrL (some n) _ _ _ => ks.contains n || lk.contains n
  | .fn _ caps => caps.any fun c => c.names.any ks.contains
  | _ => false
def BV.kill (ks lk : List Nat) (b : BV) : BV := bif b.hit ks lk then .undef else b
def CV.kill (ks lk : List Nat) : CV → CV
  | .v b => .v (b.kill ks lk)
  | .agg cs => .agg (cs.map (·.kill ks lk))
def TV.kill (ks lk : List Nat) : TV → TV
  | .c x => .c (x.kill ks lk)
  | .tup xs => .tup (xs.map (·.kill ks lk))
def Ent.kill (ks lk : List Nat) : Ent → Ent
  | .box cs => .box (cs.map (·.kill ks lk))
  | e => e
def killHeap (ks lk : List Nat) : Nat → List Ent → List Ent
  | _, [] => []
  | n, e :: l => (bif ks.contains n then .gone else e.kill ks lk) :: killHeap ks lk (n + 1) l

def St.get (σ : St) (t : Nat) : TV := σ.tmps.getD t .undef
def St.put (σ : St) (d : Option Nat) (v : TV) : St :=
  match d with
  | some t => { σ with tmps := σ.tmps.set t v }
  | none => σ
def setAll (h : List Ent) (l : List (Nat × Ent)) : List Ent := l.foldl (fun h x => h.set x.1 x.2) h
def Delta.calm (δ : Delta) : Bool := δ.kills.isEmpty && δ.litk.isEmpty
def St.apply (σ : St) (δ : Delta) (d : Option Nat) : St :=
  ({ tmps := bif δ.calm then σ.tmps else σ.tmps.map (·.kill δ.kills δ.litk),
     heap := setAll (bif δ.calm then σ.heap else killHeap δ.kills δ.litk 0 σ.heap) δ.sets } : St).put d δ.val

/-! types -/
def isAggB (P : Program) (t : TypeId) : Bool := match P.underlying t with | some (.struct _) | some (.array _ _) => true | _ => false
def elemOfB (P : Program) (t : TypeId) : Option TypeId := match P.underlying t with | some (.slice e) => some e | _ => none
def fieldOff (P : Program) (s : TypeId) (f : Nat) : Option Nat :=
  match P.underlying s with
  | some (.struct fs) => match fs[f]? with
    | some x => bif Nat.beq (P.cellsOf x.type) 0 then none else some x.offset
    | none => none
  | _ => none
def fieldSz (P : Program) (s : TypeId) (f : Nat) : Nat :=
  match P.underlying s with
  | some (.struct fs) => (fs[f]?).elim 0 fun x => P.cellsOf x.type
  | _ => 0
def Ty.isSl : Ty → Bool | .sl _ => true | _ => false
def Row.hasSl : Row → Bool
  | .one t => t.isSl
  | .cons t r => t.isSl || r.hasSl

/-- The zero cells of a type: a slice is a row of its own, without elements. -/
def zeroBV (nm : Nat) : List Ty → List BV × List (Nat × Ent)
  | [] => ([], [])
  | .int k :: l => let (a, b) := zeroBV nm l; (.int k 0 :: a, b)
  | .bool :: l => let (a, b) := zeroBV nm l; (.bool false :: a, b)
  | .str :: l => let (a, b) := zeroBV nm l; (.str .empty :: a, b)
  | .sl r :: l => let (a, b) := zeroBV (nm + 1) l
    (.ref nm :: a, (nm, .arr (.nil r)) :: b)

def mkBV : (t : Ty) → t.den → BV
  | .int k, x => .int k x
  | .bool, x => .bool x
  | .str, x => .str x
  | .sl r, x => .lit none none r x

/-- The cells of a row, as values. -/
def rowBV : (r : Row) → r.den → List BV
  | .one t, x => [mkBV t x]
  | .cons t r, x => mkBV t x.1 :: rowBV r x.2

/-- The type's zero value is what its cells' types say. -/
def zerosB : List Ty → List Value → Bool
  | [], [] => true
  | .int k :: l, .int j n :: m => decide (k = j) && decide (n = 0) && zerosB l m
  | .bool :: l, .bool b :: m => !b && zerosB l m
  | .str :: l, .string s :: m => Nat.beq s.size 0 && zerosB l m
  | .sl _ :: l, .slice none 0 0 :: m => zerosB l m
  | _, _ => false

def zeroOk (P : Program) (t : TypeId) (tys : List Ty) : Bool :=
  match (P.info? t).bind (·.zero) with
  | some z => zerosB tys z.cells.toList
  | none => false

/-! what a slice holds -/
structure Held where
  row : Row
  rows : List row.den

def heldOf (h : Nat → Ent) : BV → Option Held
  | .ref n => match h n with
    | .arr a => bif a.plain then some ⟨a.row, a.rows⟩ else none
    | _ => none
  | .sub n lo len => match h n with
    | .arr a => bif a.plain then some ⟨a.row, (a.rows.drop lo).take len⟩ else none
    | _ => none
  | .lit none _ r xs => some ⟨r, xs⟩
  | .emp r => some ⟨r, []⟩
  | _ => none

/-- The row that is given up where what a slice holds is laid into a cell. -/
def givesOf (h : Nat → Ent) : BV → List Nat
  | .ref n | .sub n _ _ => match h n with
    | .arr a => bif a.virt then [] else bif a.own || a.fix then [n] else []
    | _ => []
  | _ => []

/-- A row that is written no more. -/
def Arr.frz (a : Arr) : Arr := { a with own := false, fix := false }
def frzSets (h : Nat → Ent) : List Nat → List (Nat × Ent)
  | [] => []
  | n :: l => let r := frzSets h l
    bif (r.map (·.1)).contains n then r else match h n with
      | .arr a => (n, .arr a.frz) :: r
      | _ => r

/-- A value as the content of a cell: the content, which rows are given up. -/
structure CellIn (t : Ty) where
  x : t.den
  gives : List Nat

def toCell (h : Nat → Ent) : (t : Ty) → BV → Option (CellIn t)
  | .int k, .int l n => if k = l then some ⟨n, []⟩ else none
  | .bool, .bool b => some ⟨b, []⟩
  | .str, .str s => some ⟨s, []⟩
  | .sl r, b => match heldOf h b with
    | some ⟨r', xs⟩ => if e : r' = r then some ⟨e ▸ xs, givesOf h b⟩ else none
    | none => none
  | _, _ => none

structure RowIn (r : Row) where
  x : r.den
  gives : List Nat

def toRow (h : Nat → Ent) : (r : Row) → List BV → Option (RowIn r)
  | .one t, [b] => (toCell h t b).map fun c => ⟨c.x, c.gives⟩
  | .cons t r, b :: l => match toCell h t b, toRow h r l with
    | some c, some d => some ⟨(c.x, d.x), c.gives ++ d.gives⟩
    | _, _ => none
  | _, _ => none

/-! the operations that are no calls -/
abbrev Step := Option (Bool × Delta)
@[reducible] def okV (b : BV) : Step := some (true, { val := .c (.v b) })
@[reducible] def okIf (g : Bool) (b : BV) : Step := some (g, { val := .c (.v b) })

/-- A constant, of a type. -/
def constD (P : Program) (nm : Nat) (t : TypeId) : Value → Step
  | .int k n => okV (.int k n)
  | .bool b => okV (.bool b)
  | .string s => okV (.str s)
  | .slice none 0 0 => match (elemOfB P t).bind (rowOf P) with
    | some r => some (true, { val := .c (.v (.ref nm)), sets := [(nm, .arr (.nil r))] })
    | none => none
  | .pointer none => okV .nilp
  | _ => none

/-- ... laid into a cell. -/
def constV (P : Program) (t : TypeId) : Value → Option BV
  | .int k n => some (.int k n)
  | .bool b => some (.bool b)
  | .string s => some (.str s)
  | .slice none 0 0 => ((elemOfB P t).bind (rowOf P)).map fun r => .emp r
  | .pointer none => some .nilp
  | _ => none

def cmpI (op : BinOp) (x y : Int) : Option Bool :=
  match op with
  | .eql => some (x == y) | .neq => some (x != y) | .lss => some (decide (x < y)) | .leq => some (decide (x ≤ y)) | .gtr => some (decide (x > y)) | .geq => some (decide (x ≥ y))
  | _ => none

/-- Two structs whose parts are numbers, flags and texts. -/
def eqFieldsD (P : Program) (cs ds : List BV) : List Field → Option Bool
  | [] => some true
  | f :: fs => bif f.name == "_" then none else
    match P.underlying f.type, cs[f.offset]?, ds[f.offset]? with
    | some (.int _), some (.int k a), some (.int j b) => if k = j then (eqFieldsD P cs ds fs).map fun r => (a == b) && r else none
    | some .bool, some (.bool a), some (.bool b) => (eqFieldsD P cs ds fs).map fun r => (a == b) && r
    | some .string, some (.str a), some (.str b) => (eqFieldsD P cs ds fs).map fun r => strEq a b && r
    | _, _, _ => none

def eqAggD (P : Program) (t : TypeId) (cs ds : List BV) : Option Bool :=
  bif P.stoodInHeld t || P.eqGuardType P.depth t then none else
  match P.underlying t with
  | some (.struct fs) => eqFieldsD P cs ds fs.toList
  | _ => none

def binD (P : Program) (op : BinOp) (t : TypeId) : TV → TV → Step
  | .c (.v (.int k a)), .c (.v (.int j b)) =>
    match op with
    | .shl => okIf (decide (0 ≤ b)) (.int k (k.wrap (a * 2 ^ min b.toNat k.bits)))
    | .shr => okIf (decide (0 ≤ b)) (.int k (a.fdiv (2 ^ min b.toNat k.bits)))
    | _ => if k = j then
        match op with
        | .add => okV (.int k (k.wrap (a + b)))
        | .sub => okV (.int k (k.wrap (a - b)))
        | .mul => okV (.int k (k.wrap (a * b)))
        | .quo => okIf (b != 0) (.int k (k.wrap (a.tdiv b)))
        | .rem => okIf (b != 0) (.int k (a.tmod b))
        | .and | .or | .xor => okV (.int k (bitOp op k a b))
        | _ => (cmpI op a b).bind fun r => okV (.bool r)
      else none
  | .c (.v (.str a)), .c (.v (.str b)) =>
    match op with
    | .add => okIf (decide (a.size + b.size ≤ most)) (.str (a ++ b))
    | .eql => okV (.bool (strEq a b))
    | .neq => okV (.bool (!strEq a b))
    | .lss => okV (.bool (strLt a b))
    | .geq => okV (.bool (!strLt a b))
    | _ => none
  | .c (.v (.bool a)), .c (.v (.bool b)) =>
    match P.underlying t, op with
    | some .bool, .eql => okV (.bool (a == b))
    | some .bool, .neq => okV (.bool (!(a == b)))
    | _, _ => none
  | .c (.agg a), .c (.agg b) =>
    match op with
    | .eql => (eqAggD P t a b).bind fun r => okV (.bool r)
    | .neq => (eqAggD P t a b).bind fun r => okV (.bool (!r))
    | _ => none
  | _, _ => none

def putCells (cs : List BV) : Nat → List BV → List BV
  | _, [] => cs
  | off, b :: l => putCells (cs.set off b) (off + 1) l

/-- Where a part lies, how many cells it has. -/
def partPlace (P : Program) (t : TypeId) (i : Nat) : Option (Nat × Nat) :=
  match P.underlying t with
  | some (.struct fs) => match fs[i]? with
    | some x => some (x.offset, P.cellsOf x.type)
    | none => none
  | some (.array _ e) => some (i * P.cellsOf e, P.cellsOf e)
  | _ => none
def placesOk (P : Program) (t : TypeId) : Bool :=
  match P.underlying t with
  | some (.struct fs) => fs.toList.all fun f => (P.info? f.type).isSome
  | some (.array _ e) => (P.info? e).isSome
  | _ => false

def fillD (P : Program) (t : TypeId) (ρ : Operand → TV) : List (Nat × Operand) → List BV → Option (List BV)
  | [], cs => some cs
  | p :: l, cs => match partPlace P t p.1, ρ p.2 with
    | some (off, sz), .c x => bif x.cells.all BV.known && Nat.beq x.cells.length sz && Nat.ble (off + x.cells.length) cs.length then fillD P t ρ l (putCells cs off x.cells) else none
    | _, _ => none

def buildD (P : Program) (nm : Nat) (t : TypeId) (ρ : Operand → TV) (parts : List (Nat × Operand)) : Step :=
  match tysOf P 6 t with
  | none => none
  | some tys => bif !zeroOk P t tys || !placesOk P t then none else
    let z := zeroBV nm tys
    match fillD P t ρ parts z.1 with
    | some cs => some (true, { val := .c (.agg cs), sets := z.2 })
    | none => none

/-- The zero value of a type has so many cells. -/
def zeroSz (P : Program) (e : TypeId) (n : Nat) : Bool :=
  match (P.info? e).bind (·.zero) with
  | some z => Nat.beq z.cells.size n && Nat.beq (P.cellsOf e) n
  | none => false

/-- The rows of a literal. -/
def litRows (h : Nat → Ent) (r : Row) : List TV → Option (List r.den × List Nat)
  | [] => some ([], [])
  | .c x :: l => match toRow h r x.cells, litRows h r l with
    | some a, some b => some (a.x :: b.1, a.gives ++ b.2)
    | _, _ => none
  | _ :: _ => none

def inOrder : Nat → List (Nat × Operand) → Bool
  | _, [] => true
  | i, p :: l => Nat.beq p.1 i && inOrder (i + 1) l

def buildSliceD (P : Program) (nm : Nat) (t : TypeId) (len : Nat) (h : Nat → Ent) (ρ : Operand → TV) (parts : List (Nat × Operand)) : Step :=
  match (elemOfB P t).bind (rowOf P) with
  | none => none
  | some r =>
    bif inOrder 0 parts && Nat.beq parts.length len && Nat.ble (len * r.size) 16777216 && zeroSz P ((elemOfB P t).getD 0) r.size then
      match litRows h r (parts.map fun p => ρ p.2) with
      | some (xs, g) => some (true, { val := .c (.v (.ref nm)), sets := (nm, .arr (.mk' true r xs)) :: frzSets h g })
      | none => none
    else none

/-- Some cells out of a list. -/
def pickCells (P : Program) (t : TypeId) (cs : List BV) (off : Nat) : Step :=
  bif !(P.underlying t).isSome then none else
  bif isAggB P t then
    (bif Nat.ble (off + P.cellsOf t) cs.length then some (true, { val := .c (.agg ((cs.drop off).take (P.cellsOf t))) }) else none)
  else match cs[off]? with
    | some b => okV b
    | none => none

/-- Reading a variable of a type behind an address. -/
def loadD (P : Program) (t : TypeId) (h : Nat → Ent) : TV → Step
  | .c (.v (.ptrB n off)) => match h n with
    | .box cs => pickCells P t cs off
    | _ => none
  | .c (.v (.ptrE n i j)) => match h n with
    | .arr a => bif a.plain then pickCells P t (rowBV a.row (a.rows.getD i a.row.zero)) j else none
    | _ => none
  | .c (.v (.ptrL none r x j)) => pickCells P t (rowBV r x) j
  | _ => none

/-- Cells put into a row, one behind the other. -/
def putRow (h : Nat → Ent) (r : Row) : r.den → Nat → List BV → Option (RowIn r)
  | x, _, [] => some ⟨x, []⟩
  | x, j, b :: l => match r.cell x j with
    | some ⟨t, _⟩ => match toCell h t b with
      | some c => match r.put x j t c.x with
        | some y => match putRow h r y (j + 1) l with
          | some d => some ⟨d.x, c.gives ++ d.gives⟩
          | none => none
        | none => none
      | none => none
    | none => none

def storeD (P : Program) (t : TypeId) (h : Nat → Ent) : TV → CV → Step
  | .c (.v (.ptrB n off)), x => match h n with
    | .box cs => bif x.cells.all BV.known && (P.underlying t).isSome && Nat.beq x.cells.length (P.cellsOf t) && Nat.ble (off + x.cells.length) cs.length then
        some (true, { sets := [(n, .box (putCells cs off x.cells))] })
      else none
    | _ => none
  | .c (.v (.ptrE n i j)), x => match h n with
    | .arr a => bif a.own && a.plain && (P.underlying t).isSome && Nat.beq x.cells.length (P.cellsOf t) && Nat.ble (j + x.cells.length) a.row.size then
        match putRow h a.row (a.rows.getD i a.row.zero) j x.cells with
        | some d => bif d.gives.contains n then none else some (true, { sets := (n, .arr { a with rows := a.rows.set i d.x }) :: frzSets h d.gives })
        | none => none
      else none
    | _ => none
  | _, _ => none

def fieldAddrD (P : Program) (s : TypeId) (f : Nat) : TV → Step
  | .c (.v (.ptrB n off)) => (fieldOff P s f).bind fun o => okV (.ptrB n (off + o))
  | .c (.v (.ptrE n i j)) => (fieldOff P s f).bind fun o => okV (.ptrE n i (j + o))
  | .c (.v (.ptrL src r x j)) => (fieldOff P s f).bind fun o => okV (.ptrL src r x (j + o))
  | _ => none

def within (i : Int) (n : Nat) : Bool := decide (0 ≤ i) && decide (i < (n : Int))

def indexAddrD (P : Program) (t : TypeId) (h : Nat → Ent) : TV → TV → Step
  | .c (.v b), .c (.v (.int _ i)) =>
    match elemOfB P t with
    | none => none
    | some e => match b with
      | .ref n => match h n with
        | .arr a => bif Nat.beq a.row.size (P.cellsOf e) then okIf (within i a.rows.length) (.ptrE n i.toNat 0) else none
        | _ => none
      | .sub n lo len => match h n with
        | .arr a => bif Nat.beq a.row.size (P.cellsOf e) then okIf (within i len) (.ptrE n (lo + i.toNat) 0) else none
        | _ => none
      | .lit none _ r xs => bif Nat.beq r.size (P.cellsOf e) then okIf (within i xs.length) (.ptrL none r (xs.getD i.toNat r.zero) 0) else none
      | _ => none
  | _, _ => none

/-- The cells of an array of one kind as a list. -/
def cellsInt (k : IntKind) : List BV → Option (List Int)
  | [] => some []
  | .int l n :: m => if k = l then (cellsInt k m).map fun r => n :: r else none
  | _ => none
def cellsStr : List BV → Option (List ByteArray)
  | [] => some []
  | .str s :: m => (cellsStr m).map fun r => s :: r
  | _ => none

def indexD (P : Program) (t : TypeId) : TV → TV → Step
  | .c (.v (.str s)), .c (.v (.int _ i)) => match P.underlying t with
    | some .string => okIf (within i s.size) (.int .u8 (bt s i.toNat))
    | _ => none
  | .c (.agg cs), .c (.v (.int _ i)) => match P.underlying t with
    | some (.array n e) => match P.underlying e with
      | some (.int k) => match cellsInt k cs with
        | some l => bif Nat.beq n l.length && Nat.beq (P.cellsOf e) 1 then okIf (within i n) (.int k (l.getD i.toNat 0)) else none
        | none => none
      | some .string => match cellsStr cs with
        | some l => bif Nat.beq n l.length && Nat.beq (P.cellsOf e) 1 then okIf (within i n) (.str (l.getD i.toNat .empty)) else none
        | none => none
      | _ => none
    | _ => none
  | _, _ => none

def optI : Option TV → Option (Option Int)
  | none => some none
  | some (.c (.v (.int _ n))) => some (some n)
  | _ => none

/-- The bounds of a slice expression, as far as they are what is there. -/
def bounds (lo hi : Option Int) (n : Nat) : Bool × Nat × Nat :=
  let l := lo.getD 0
  let u := hi.getD n
  (decide (0 ≤ l) && (decide (l ≤ u) && decide (u ≤ (n : Int))), l.toNat, u.toNat)

def sliceD (P : Program) (t : TypeId) (h : Nat → Ent) : TV → Option TV → Option TV → Option TV → Step
  | .c (.v b), lo, hi, none => match optI lo, optI hi with
    | some lo, some hi => match b, P.underlying t with
      | .str s, some .string => let q := bounds lo hi s.size; okIf q.1 (.str (s.extract q.2.1 q.2.2))
      | .ref n, some (.slice e) => match h n with
        | .arr a => bif a.plain && Nat.beq a.row.size (P.cellsOf e) then let q := bounds lo hi a.rows.length; okIf q.1 (.sub n q.2.1 (q.2.2 - q.2.1)) else none
        | _ => none
      | .sub n l0 len, some (.slice e) => match h n with
        | .arr a => bif a.plain && Nat.beq a.row.size (P.cellsOf e) then let q := bounds lo hi len; okIf q.1 (.sub n (l0 + q.2.1) (q.2.2 - q.2.1)) else none
        | _ => none
      | .lit none _ r xs, some (.slice e) => bif Nat.beq r.size (P.cellsOf e) then let q := bounds lo hi xs.length; okIf q.1 (.lit none none r ((xs.drop q.2.1).take (q.2.2 - q.2.1))) else none
      | _, _ => none
    | _, _ => none
  | .c (.v b), none, some (.c (.v (.int _ u))), some (.c (.v (.int _ m))) => match b, elemOfB P t with
    | .ref n, some e => match h n with
      | .arr a => bif a.plain && Nat.beq a.row.size (P.cellsOf e) then
          bif a.own then some (decide (0 ≤ u) && (decide (u ≤ (a.rows.length : Int)) && (m == u)), { val := .c (.v (.ref n)), kills := [n], sets := [(n, .arr (.mk' true a.row (a.rows.take u.toNat)))] })
          else okIf (decide (u = 0) && decide (m = 0)) (.emp a.row)
        else none
      | _ => none
    | .sub n _ _, some e => match h n with
      | .arr a => bif a.plain && Nat.beq a.row.size (P.cellsOf e) then okIf (decide (u = 0) && decide (m = 0)) (.emp a.row) else none
      | _ => none
    | .lit none _ r _, some e => bif Nat.beq r.size (P.cellsOf e) then okIf (decide (u = 0) && decide (m = 0)) (.emp r) else none
    | .emp r, some e => bif Nat.beq r.size (P.cellsOf e) then okIf (decide (u = 0) && decide (m = 0)) (.emp r) else none
    | _, _ => none
  | _, _, _, _ => none

def convertD (P : Program) (nm : Nat) (src dst : TypeId) (h : Nat → Ent) : TV → Step
  | .c (.v (.int _ n)) => match P.underlying src, P.underlying dst with
    | some _, some (.int k) => okV (.int k (k.wrap n))
    | _, _ => none
  | .c (.v (.str s)) => match P.underlying src, P.underlying dst with
    | some .string, some .string => okV (.str s)
    | some .string, some (.slice e) => match P.underlying e with
      | some (.int .u8) => some (decide (s.size ≤ most), { val := .c (.v (.ref nm)), sets := [(nm, .arr (.mk' true (.one (.int .u8)) (bytesI s)))] })
      | _ => none
    | _, _ => none
  | .c (.v b) => match P.underlying src, P.underlying dst with
    | some (.slice e), some .string => match P.underlying e, heldOf h b with
      | some (.int .u8), some ⟨.one (.int .u8), xs⟩ => okV (.str (strOf xs))
      | _, _ => none
    | _, _ => none
  | _ => none

def makeSliceD (P : Program) (nm : Nat) (t : TypeId) : TV → TV → Step
  | .c (.v (.int _ l)), .c (.v (.int _ c)) => match elemOfB P t with
    | some e => match tysOf P 6 e with
      | some tys => match mkRow tys with
        | some r => bif zeroOk P e tys && Nat.ble ((P.info? e).elim 1000000 (·.bytes)) 1024 && Nat.beq r.size (P.cellsOf e) then
            some (decide (0 ≤ l) && (decide (l ≤ (most : Int)) && (c == l)), { val := .c (.v (.ref nm)), sets := [(nm, .arr (.mk' true r (List.replicate l.toNat r.zero)))] })
          else none
        | none => none
      | none => none
    | none => none
  | _, _ => none

def lenD (P : Program) (t : TypeId) : TV → (Nat → Ent) → Option Nat
  | .c (.v b), h => match P.underlying t, b with
    | some .string, .str s => some s.size
    | some (.slice _), .ref n => match h n with | .arr a => some a.rows.length | _ => none
    | some (.slice _), .sub _ _ len => some len
    | some (.slice _), .lit none _ _ xs => some xs.length
    | some (.slice _), .emp _ => some 0
    | _, _ => none
  | _, _ => none

/-- append: what comes behind. -/
def behindOf (h : Nat → Ent) (r : Row) : TV → Option (List r.den)
  | .c (.v (.str s)) => if e : Row.one (.int .u8) = r then some (e ▸ (bytesI s : List (Row.one (.int .u8)).den)) else none
  | .c (.v b) => match heldOf h b with
    | some ⟨r', xs⟩ => if e : r' = r then some (e ▸ xs) else none
    | none => none
  | _ => none

def appendD (P : Program) (nm : Nat) (t : TypeId) (h : Nat → Ent) : TV → TV → Step
  | .c (.v b), y =>
    match elemOfB P t with
    | none => none
    | some e =>
    bif Nat.ble ((P.info? e).elim 1000000 (·.bytes)) 1024 then
      match b with
      | .ref n => match h n with
        | .arr a => bif a.own && a.plain && zeroSz P e a.row.size then
            match behindOf h a.row y with
            | some xs =>
              let g := decide (a.rows.length + xs.length ≤ most)
              bif a.virt then some (g, { val := .c (.v (.ref nm)), sets := [(nm, .arr (.mk' true a.row (a.rows ++ xs)))] })
              else some (g, { val := .c (.v (.ref n)), kills := [n], sets := [(n, .arr (.mk' true a.row (a.rows ++ xs)))] })
            | none => none
          else none
        | _ => none
      | .sub n lo len => match h n with
        | .arr a => bif a.own && a.plain && zeroSz P e a.row.size then
            match behindOf h a.row y with
            | some xs => some (decide (len + xs.length ≤ most), { val := .c (.v (.ref n)), kills := [n], sets := [(n, .arr (.mk' true a.row ((a.rows.drop lo).take len ++ xs)))] })
            | none => none
          else none
        | _ => none
      | .emp r => bif zeroSz P e r.size then
          match behindOf h r y with
          | some xs => some (decide (xs.length ≤ most), { val := .c (.v (.ref nm)), sets := [(nm, .arr (.mk' true r xs))] })
          | none => none
        else none
      | _ => none
    else none
  | _, _ => none

def capsOf : List TV → Option (List CapV)
  | [] => some []
  | .c (.v b) :: l => match (match b with
      | .int k n => some (CapV.int k n) | .bool b => some (.bool b) | .str s => some (.str s) | .ref n => some (.ref n) | .ptrB n off => some (.ptr n off) | _ => none), capsOf l with
    | some a, some r => some (a :: r)
    | _, _ => none
  | _ => none

def minMaxD (mx : Bool) : List TV → Option BV
  | [.c (.v (.int k a)), .c (.v (.int j b))] => if k = j then some (.int k (bif mx then (if b > a then b else a) else (if b < a then b else a))) else none
  | _ => none

def boxD (nm : Nat) (cs : List BV) (sets : List (Nat × Ent)) : Step := some (true, { val := .c (.v (.ptrB nm 0)), sets := (nm, .box cs) :: sets })

/-- One operation that is no call of a function. -/
def step (P : Program) (nm : Nat) (ρ : Operand → TV) (h : Nat → Ent) (o : Oper) : Step :=
  match o.op with
  | .move (.const v) | .assign (.const v) => constD P nm o.type v
  | .move x | .assign x => some (true, { val := ρ x })
  | .pick c a b => match ρ c, ρ a, ρ b with
    | .c (.v (.bool c)), .c (.v (.bool x)), .c (.v (.bool y)) => okV (.bool (bif c then x else y))
    | .c (.v (.bool c)), .c (.v (.bool x)), _ => okIf c (.bool x)
    | .c (.v (.bool c)), _, .c (.v (.bool y)) => okIf (!c) (.bool y)
    | _, _, _ => none
  | .alloc t => match tysOf P 6 t with
    | some tys => bif zeroOk P t tys then let z := zeroBV (nm + 1) tys; boxD nm z.1 z.2 else none
    | none => none
  | .box t x => match ρ x with
    | .c x => bif x.cells.all BV.known && Nat.beq x.cells.length (P.cellsOf t) then boxD nm x.cells [] else none
    | _ => none
  | .build t parts => buildD P nm t ρ parts.toList
  | .buildSlice t len parts => buildSliceD P nm t len h ρ parts.toList
  | .load t a => loadD P t h (ρ a)
  | .store t a (.const v) => (constV P t v).bind fun b => storeD P t h (ρ a) (.v b)
  | .store t a x => match ρ x with
    | .c x => storeD P t h (ρ a) x
    | _ => none
  | .nilCheck x => match ρ x with
    | .c (.v (.ptrB n off)) => okV (.ptrB n off)
    | .c (.v (.ptrE n i j)) => okV (.ptrE n i j)
    | .c (.v (.ptrL s r x j)) => okV (.ptrL s r x j)
    | _ => none
  | .binOp op t x y _ => binD P op t (ρ x) (ρ y)
  | .unOp .not _ x => match ρ x with
    | .c (.v (.bool b)) => okV (.bool (!b))
    | _ => none
  | .convert src dst x => convertD P nm src dst h (ρ x)
  | .makeFunc (.func f) first caps => bif first.isEmpty then (capsOf (caps.toList.map ρ)).bind fun l => okV (.fn f l) else none
  | .makeSlice t l c => makeSliceD P nm t (ρ l) (ρ c)
  | .slice t x lo hi mx => sliceD P t h (ρ x) (lo.map ρ) (hi.map ρ) (mx.map ρ)
  | .fieldAddr s x f => fieldAddrD P s f (ρ x)
  | .indexAddr t x i => indexAddrD P t h (ρ x) (ρ i)
  | .index t x i => indexD P t (ρ x) (ρ i)
  | .extract x i => match ρ x with
    | .tup xs => match xs[i]? with
      | some c => some (true, { val := .c c })
      | none => none
    | _ => none
  | .call { callee := .builtin .len, args, argTypes } => match args.toList, argTypes[0]? with
    | [x], some t => (lenD P t (ρ x) h).bind fun n => okV (.int .i64 n)
    | _, _ => none
  | .call { callee := .builtin .append, args, argTypes } => match args.toList, argTypes[0]?, argTypes[1]? with
    | [x, y], some t, some u => match P.underlying u with
      | some (.slice _) | some .string => appendD P nm t h (ρ x) (ρ y)
      | _ => none
    | _, _, _ => none
  | .call { callee := .builtin .min, args, .. } => (minMaxD false (args.toList.map ρ)).bind okV
  | .call { callee := .builtin .max, args, .. } => (minMaxD true (args.toList.map ρ)).bind okV
  | _ => none

/-- How many rows an operation may lay. -/
def needs (P : Program) (o : Oper) : Nat :=
  match o.op with
  | .alloc t => 1 + ((tysOf P 6 t).getD []).length
  | .build t _ => ((tysOf P 6 t).getD []).length
  | .box .. | .buildSlice .. | .convert .. | .makeSlice .. | .slice .. | .move (.const _) | .assign (.const _) => 1
  | .call { callee := .builtin .append, .. } => 1
  | _ => 0

end Go.Sx

/- A pure interpreter of Go.Code over typed values: calls, regions, control. -/
namespace Go.Sx

/-- How a callee takes the rows of an argument: it reads them; they become its own; it may write into them; through a pointer to so many cells. -/
inductive PM where
  | imm | own | upd | ptr (n : Nat) (ms : List PM)

structure Sig where
  modes : List PM
  fresh : Nat

inductive Src where
  | arr (n : Nat) | sub (n lo len : Nat) | lit (r : Row) (xs : List r.den) | box (n off len : Nat) | own (n : Nat) | upd (n : Nat) | nil (r : Row)

structure Acc where
  ents : List Ent
  srcs : List Src
  gives : List Nat

def Src.isArr (n : Nat) : Src → Bool
  | .arr m | .upd m => Nat.beq m n
  | _ => false
def Src.isBox (n off sz : Nat) : Src → Bool
  | .box m o l => Nat.beq m n && (Nat.beq o off && Nat.beq l sz)
  | _ => false
/-- Something of that name is handed in. -/
def Src.of (n : Nat) : Src → Bool
  | .arr m | .upd m | .own m | .sub m _ _ | .box m _ _ => Nat.beq m n
  | _ => false
def findAt (p : Src → Bool) : Nat → List Src → Option Nat
  | _, [] => none
  | i, s :: l => bif p s then some i else findAt p (i + 1) l

def Acc.push (a : Acc) (e : Ent) (s : Src) : Acc := { a with ents := a.ents ++ [e], srcs := a.srcs ++ [s] }
def Acc.ref (a : Acc) (e : Ent) (s : Src) : Option (BV × Acc) := some (.ref a.ents.length, a.push e s)

/-- A row handed in. -/
def inArr (own : Bool) (r : Row) (xs : List r.den) : Ent := .arr { row := r, own := own, nest := false, virt := false, fix := true, hole := none, rows := xs }

def BV.flat : BV → Bool
  | .int _ _ | .bool _ | .str _ => true
  | _ => false

def CapV.flat : CapV → Bool
  | .int _ _ | .bool _ | .str _ => true
  | _ => false

/-- A cell that is no pointer, as the callee has it. -/
def conv (h : Nat → Ent) (pm : PM) (b : BV) (a : Acc) : Option (BV × Acc) :=
  bif b.flat then some (b, a) else
  match pm, b with
  | .imm, .ref n => match h n with
    | .arr x => match findAt (Src.isArr n) 0 a.srcs with
      | some i => some (.ref i, a)
      | none => bif x.plain && !(a.srcs.any (Src.of n)) then a.ref (inArr false x.row x.rows) (.arr n) else none
    | _ => none
  | .imm, .sub n lo len => match h n with
    | .arr x => bif x.plain && !(a.srcs.any (Src.of n)) then a.ref (inArr false x.row ((x.rows.drop lo).take len)) (.sub n lo len) else none
    | _ => none
  | .imm, .lit none _ r xs => a.ref (inArr false r xs) (.lit r xs)
  | .imm, .emp r => a.ref (inArr false r []) (.lit r [])
  | .own, .emp r => a.ref (.arr (.mk' true r [])) (.nil r)
  | .own, .ref n => match h n with
    | .arr x => bif x.own && x.plain && !(a.srcs.any (Src.of n)) then ({ a with gives := n :: a.gives } : Acc).ref (.arr (.mk' true x.row x.rows)) (.own n) else none
    | _ => none
  | .own, .sub n lo len => match h n with
    | .arr x => bif x.own && x.plain && !(a.srcs.any (Src.of n)) then ({ a with gives := n :: a.gives } : Acc).ref (.arr (.mk' true x.row ((x.rows.drop lo).take len))) (.own n) else none
    | _ => none
  | .upd, .ref n => match h n with
    | .arr x => match findAt (Src.isArr n) 0 a.srcs with
      | some i => some (.ref i, a)
      | none => bif x.own && x.plain && !(a.srcs.any (Src.of n)) then a.ref (inArr true x.row x.rows) (.upd n) else none
    | _ => none
  | _, .fn f caps => bif caps.all CapV.flat then some (.fn f caps, a) else none
  | _, _ => none

def convs (h : Nat → Ent) (ms : List PM) : Nat → List BV → Acc → Option (List BV × Acc)
  | _, [], a => some ([], a)
  | i, b :: l, a => match conv h (ms.getD i .imm) b a with
    | some (b', a) => match convs h ms (i + 1) l a with
      | some (l', a) => some (b' :: l', a)
      | none => none
    | none => none

def convArg (h : Nat → Ent) (pm : PM) (v : TV) (a : Acc) : Option (TV × Acc) :=
  match v with
  | .c (.v (.ptrB n off)) => match pm with
    | .ptr sz ms => match findAt (Src.isBox n off sz) 0 a.srcs with
      | some i => some (.c (.v (.ptrB i 0)), a)
      | none => match h n with
        | .box cs => bif Nat.beq off 0 && Nat.beq sz cs.length then
            match convs h ms 0 cs a with
            | some (cs', a) => bif a.srcs.any (Src.of n) then none else some (.c (.v (.ptrB a.ents.length 0)), a.push (.box cs') (.box n off sz))
            | none => none
          else none
        | _ => none
    | _ => none
  | .c (.v b) => match conv h pm b a with
    | some (b, a) => some (.c (.v b), a)
    | none => none
  | .c (.agg cs) => match convs h (cs.map fun _ => pm) 0 cs a with
    | some (cs, a) => some (.c (.agg cs), a)
    | none => none
  | _ => none

def convArgs (h : Nat → Ent) : List PM → List TV → Acc → Option (List TV × Acc)
  | _, [], a => some ([], a)
  | ms, v :: l, a => match convArg h (ms.headD .imm) v a with
    | some (v, a) => match convArgs h ms.tail l a with
      | some (l, a) => some (v :: l, a)
      | none => none
    | none => none

/-! what comes back -/
def addNew (n : Nat) (l : List Nat) : List Nat := bif l.contains n then l else l ++ [n]

/-- The callee's row is none that the caller has. -/
def isNew (srcs : List Src) (j : Nat) : Bool :=
  match srcs[j]? with
  | none | some (.own _) | some (.nil _) => true
  | _ => false

def newNames (srcs : List Src) (l : List Nat) : List Nat := l.foldl (fun acc j => bif isNew srcs j then addNew j acc else acc) []

def posOf (j : Nat) : Nat → List Nat → Option Nat
  | _, [] => none
  | i, x :: l => bif Nat.beq x j then some i else posOf j (i + 1) l

def embed (nm : Nat) (srcs : List Src) (news : List Nat) : BV → Option BV
  | .ref j => match posOf j 0 news with
    | some i => some (.ref (nm + i))
    | none => match srcs[j]? with
      | some (.arr n) | some (.upd n) => some (.ref n)
      | some (.sub n lo len) => some (.sub n lo len)
      | some (.lit r xs) => some (.lit none none r xs)
      | _ => none
  | .sub j lo len => match posOf j 0 news with
    | some i => some (.sub (nm + i) lo len)
    | none => match srcs[j]? with
      | some (.arr n) => some (.sub n lo len)
      | _ => none
  | .lit none _ r xs => some (.lit none none r xs)
  | .emp r => some (.emp r)
  | .fn f caps => bif caps.all CapV.flat then some (.fn f caps) else none
  | .int k n => some (.int k n)
  | .bool b => some (.bool b)
  | .str s => some (.str s)
  | _ => none

def embeds (nm : Nat) (srcs : List Src) (news : List Nat) : List BV → Option (List BV)
  | [] => some []
  | b :: l => match embed nm srcs news b, embeds nm srcs news l with
    | some a, some r => some (a :: r)
    | _, _ => none

def embedC (nm : Nat) (srcs : List Src) (news : List Nat) : CV → Option CV
  | .v b => (embed nm srcs news b).map .v
  | .agg cs => (embeds nm srcs news cs).map .agg

def embedCs (nm : Nat) (srcs : List Src) (news : List Nat) : List CV → Option (List CV)
  | [] => some []
  | b :: l => match embedC nm srcs news b, embedCs nm srcs news l with
    | some a, some r => some (a :: r)
    | _, _ => none

def embedT (nm : Nat) (srcs : List Src) (news : List Nat) : TV → Option TV
  | .c x => (embedC nm srcs news x).map .c
  | .tup xs => (embedCs nm srcs news xs).map .tup

/-- What the call does to one row or box that it was handed. -/
def backOne (h : Nat → Ent) (nm : Nat) (a : Acc) (news : List Nat) (e : Option Ent) : Src → Option (List (Nat × Ent))
  | .box n off len => match h n, e with
    | .box cs, some (.box cs') => bif Nat.beq off 0 && Nat.beq cs'.length len && Nat.beq len cs.length then
        match embeds nm a.srcs news cs' with
        | some cs' => some [(n, .box cs')]
        | none => none
      else none
    | _, _ => none
  | .upd n => match h n, e with
    | .arr x, some (.arr y) => bif y.own && y.fix then some [(n, .arr { y with virt := x.virt, fix := x.fix })] else none
    | _, _ => none
  | .arr n | .sub n _ _ => match h n, e with
    | .arr x, some (.arr y) => bif y.own then none else bif y.fix || x.virt then some [] else some [(n, .arr x.frz)]
    | _, _ => none
  | .lit _ _ | .own _ | .nil _ => some []

def backSets (h : Nat → Ent) (nm : Nat) (a : Acc) (news : List Nat) (ents : List Ent) : Nat → List Src → Option (List (Nat × Ent))
  | _, [] => some []
  | i, s :: l => match backOne h nm a news ents[i]? s, backSets h nm a news ents (i + 1) l with
    | some x, some y => some (x ++ y)
    | _, _ => none

def newSets (nm : Nat) (ents : List Ent) : Nat → List Nat → Option (List (Nat × Ent))
  | _, [] => some []
  | i, j :: l => match ents[j]?, newSets nm ents (i + 1) l with
    | some (.arr y), some r => bif y.own || !y.fix then some ((nm + i, .arr { y with fix := false }) :: r) else none
    | _, _ => none

def boxNames (ents : List Ent) : Nat → List Src → List Nat
  | _, [] => []
  | i, .box _ _ _ :: l => (match ents[i]? with | some (.box cs) => cs.flatMap BV.names | _ => []) ++ boxNames ents (i + 1) l
  | i, _ :: l => boxNames ents (i + 1) l

/-- What a call makes of the caller's state. -/
def after (h : Nat → Ent) (nm fresh : Nat) (a : Acc) (res : TV) (ents : List Ent) : Option Delta :=
  let news := newNames a.srcs (res.names ++ boxNames ents 0 a.srcs)
  bif Nat.ble news.length fresh then
    match embedT nm a.srcs news res, backSets h nm a news ents 0 a.srcs, newSets nm ents 0 news with
    | some v, some s, some t => some { val := v, kills := a.gives, sets := s ++ t }
    | _, _, _ => none
  else none

/-! control -/
abbrev Out := TV × List Ent
abbrev Oracle (β : Type) := FuncId → List Ent → List TV → (TV → List Ent → Option β) → Option β

inductive PX where
  | normal | exit (id : Nat) | ret

structure Cfg where
  P : Program
  S : FuncId → Option Sig
  cut : Nat → Bool                               -- the regions ahead of which the function is cut
  live : Nat → List Nat                          -- the temporaries that count at a place
  pars : Nat                                     -- how many rows and boxes came in
  n : Nat                                        -- how many temporaries there are

structure Env (β : Type) extends Cfg where
  O : Oracle β
  H : Nat → List TV → List Ent → Option β        -- what the function comes to from a place on: from a loop (twice its block), from a region that is cut (twice its number and one)

/-- An operand as a value: a nil slice in a call is a row of its own. -/
def opVal (σ : St) : Operand → TV
  | .tmp t => σ.get t
  | .func f => .c (.v (.fn f []))
  | .const (.int k n) => .c (.v (.int k n))
  | .const (.bool b) => .c (.v (.bool b))
  | .const (.string s) => .c (.v (.str s))
  | _ => .undef

/-- The names that an operation sees. -/
def seen (hp : List Ent) (vs : List TV) : List Nat :=
  let l := vs.flatMap TV.names
  l ++ l.flatMap fun n => match hp.getD n .gone with
    | .box cs => cs.flatMap BV.names
    | _ => []

def look (hp : List Ent) (l : List Nat) (n : Nat) : Ent := bif l.contains n then hp.getD n .gone else .gone

/-- A nil slice handed in. -/
def argVal (P : Program) (σ : St) (x : Operand) (t : TypeId) : TV :=
  match x with
  | .const (.slice none 0 0) => match (elemOfB P t).bind (rowOf P) with
    | some r => .c (.v (.emp r))
    | none => .undef
  | x => opVal σ x

def argVals (P : Program) (σ : St) : List Operand → List TypeId → List TV
  | [], _ => []
  | x :: l, ts => argVal P σ x (ts.headD 0) :: argVals P σ l ts.tail

def callK {β : Type} (E : Env β) (σ : St) (nm lim : Nat) (f : FuncId) (vs : List TV) (K : Delta → Option β) : Option β :=
  match E.S f with
  | none => none
  | some sig => bif !Nat.ble sig.fresh lim then none else
    let h := look σ.heap (seen σ.heap vs)
    match convArgs h sig.modes vs ⟨[], [], []⟩ with
    | none => none
    | some (vs', a) => E.O f a.ents vs' fun res ents => match after h nm sig.fresh a res ents with
      | some δ => K δ
      | none => none

/-- So many names are free. -/
def freeAt (hp : List Ent) (nm : Nat) : Nat → Bool
  | 0 => true
  | n + 1 => (match hp[nm]? with | some .gone => true | _ => false) && freeAt hp (nm + 1) n

/-- The fresh names of an operation. -/
def needOf {β : Type} (E : Env β) (o : Oper) : Nat :=
  match o.op with
  | .call { callee := .value (.func f), .. } => (E.S f).elim 0 (·.fresh)
  | .call { callee := .value _, .. } => 4
  | _ => needs E.P o

def CapV.tv : CapV → TV
  | .int k n => .c (.v (.int k n)) | .bool b => .c (.v (.bool b)) | .str s => .c (.v (.str s)) | .ref n => .c (.v (.ref n)) | .ptr n off => .c (.v (.ptrB n off))

/-- One operation. -/
def oneK {β : Type} (E : Env β) (σ : St) (nm : Nat) (o : Oper) (K : Delta → Option β) : Option β :=
  bif !(freeAt σ.heap nm (needOf E o) && Nat.ble E.pars nm) then none else
  match o.op with
  | .call { callee := .value f, args, argTypes } => match f with
    | .func f => callK E σ nm ((E.S f).elim 0 (·.fresh)) f (argVals E.P σ args.toList argTypes.toList) K
    | x => match opVal σ x with
      | .c (.v (.fn f caps)) => callK E σ nm 4 f (argVals E.P σ args.toList argTypes.toList ++ caps.map CapV.tv) K
      | _ => none
  | op => match step E.P nm (opVal σ) (look σ.heap (seen σ.heap (op.operands.toList.map (opVal σ)))) o with
    | some (g, δ) => bif δ.litk.isEmpty then (if g = true then K δ else none) else none
    | none => none

/-- What stands where an operation was left out. -/
@[reducible] def skipTV : TV := .tup []

def runOps {β : Type} (E : Env β) (all : Array Oper) : List (Oper × Nat) → St → (St → Option β) → Option β
  | [], σ, K => K σ
  | (o, nm) :: l, σ, K => match o.guard with
    | none => oneK E σ nm o fun δ => runOps E all l (σ.apply δ o.dst) K
    | some (j, want) => match (all[j]?).bind (·.dst) with
      | some t => match σ.get t with
        | .c (.v (.bool b)) =>
          let yes (σ : St) := oneK E σ nm o fun δ => runOps E all l (σ.apply δ o.dst) K
          let no (σ : St) := runOps E all l (σ.put o.dst skipTV) K
          match want with
          | true => if b = true then yes (σ.put (some t) (.c (.v (.bool true)))) else no (σ.put (some t) (.c (.v (.bool false))))
          | false => if b = true then no (σ.put (some t) (.c (.v (.bool true)))) else yes (σ.put (some t) (.c (.v (.bool false))))
        | .tup [] => runOps E all l (σ.put o.dst skipTV) K
        | _ => none
      | none => none

def named {β : Type} (E : Env β) : Nat → List Oper → List (Oper × Nat)
  | _, [] => []
  | nm, o :: l => (o, nm) :: named E (nm + needOf E o) l
def needAll {β : Type} (E : Env β) : List Oper → Nat
  | [] => 0
  | o :: l => needOf E o + needAll E l

def wider (σ : St) (n : Nat) : St := { σ with heap := σ.heap ++ List.replicate n .gone }

/-! a region that draws its order: the text's order serves where all others come to the same -/

/-- What an operation did: what it turned, what it looked at. -/
structure Rec where
  i : Nat
  o : Oper
  kills : List Nat
  sets : List Nat
  outs : List Nat      -- the names in what it yields and lays
  sees : List Nat
  deep : List Nat      -- the names in the boxes that it sees
  clean : Bool         -- all that it looks at is known

def Ent.known : Ent → Bool
  | .box cs => cs.all BV.known
  | _ => true

def Ent.roots : Ent → List Nat
  | .box cs => cs.flatMap BV.names
  | _ => []

/-- The names that one operation looks at, and those that it may lay. -/
def seesOf {β : Type} (E : Env β) (σ : St) (nm : Nat) (o : Oper) : List Nat :=
  (match o.op with
  | .call { callee := .value f, args, argTypes } => match f with
    | .func _ => seen σ.heap (argVals E.P σ args.toList argTypes.toList)
    | x => match opVal σ x with
      | .c (.v (.fn _ caps)) => seen σ.heap (argVals E.P σ args.toList argTypes.toList ++ caps.map CapV.tv)
      | _ => []
  | op => seen σ.heap (op.operands.toList.map (opVal σ))) ++ List.range' nm (needOf E o)

def recOf {β : Type} (E : Env β) (σ : St) (nm i : Nat) (o : Oper) (δ : Delta) : Rec :=
  let s := seesOf E σ nm o
  { i := i, o := o, kills := δ.kills, sets := δ.sets.map (·.1), outs := δ.val.names ++ δ.sets.flatMap fun x => x.2.roots, sees := s, deep := s.flatMap fun n => (σ.heap.getD n .gone).roots,
    clean := (o.op.operands.toList.all fun y => (opVal σ y).cells.all BV.known) && s.all fun n => (σ.heap.getD n .gone).known }

def noneOf (l m : List Nat) : Bool := l.all fun n => !m.contains n

/-- The two may change places. -/
def Rec.apart (ops : Array Oper) (x y : Rec) : Bool :=
  x.o.apart ops y.o && (noneOf x.sets y.sees && (noneOf y.sets x.sees && (noneOf x.sets y.sets &&
    ((x.kills.isEmpty || (y.clean && (noneOf x.kills y.sees && (noneOf x.kills y.sets && noneOf x.kills y.outs)))) &&
     (y.kills.isEmpty || (noneOf y.kills x.sees && (noneOf y.kills x.deep && (noneOf y.kills x.sets && noneOf y.kills x.outs))))))))

/-- Which operations come ahead of one, by its edges: a bit each. -/
def edgeMask (acc : List Nat) (o : Oper) : Nat :=
  o.after.toList.foldl (fun m e => bif Region.binds .any e then m ||| (1 <<< e.on) ||| acc.getD e.on 0 else m) 0
def masks : List Nat → List Oper → List Nat
  | acc, [] => acc
  | acc, o :: l => masks (acc ++ [edgeMask acc o]) l

/-- The edges lead back. -/
def edgesBack : Nat → List Oper → Bool
  | _, [] => true
  | k, o :: l => (o.after.toList.all fun e => !Region.binds .any e || Nat.blt e.on k) && edgesBack (k + 1) l

def apartAll (ops : Array Oper) (m : Nat) (r : Rec) (acc : List Rec) : Bool := acc.all fun x => m.testBit x.i || x.apart ops r

def runOpsD {β : Type} (E : Env β) (all : Array Oper) (ms : List Nat) : List (Oper × Nat) → Nat → List Rec → St → (St → Option β) → Option β
  | [], _, _, σ, K => K σ
  | (o, nm) :: l, i, acc, σ, K =>
    let go (σ : St) := oneK E σ nm o fun δ =>
      let r := recOf E σ nm i o δ
      bif apartAll all (ms.getD i 0) r acc then runOpsD E all ms l (i + 1) (r :: acc) (σ.apply δ o.dst) K else none
    let skip (σ : St) :=
      let r : Rec := { i := i, o := o, kills := [], sets := [], outs := [], sees := [], deep := [], clean := true }
      bif apartAll all (ms.getD i 0) r acc then runOpsD E all ms l (i + 1) (r :: acc) (σ.put o.dst skipTV) K else none
    match o.guard with
    | none => go σ
    | some (j, want) => match (all[j]?).bind (·.dst) with
      | some t => match σ.get t with
        | .c (.v (.bool b)) =>
          match want with
          | true => if b = true then go (σ.put (some t) (.c (.v (.bool true)))) else skip (σ.put (some t) (.c (.v (.bool false))))
          | false => if b = true then skip (σ.put (some t) (.c (.v (.bool true)))) else go (σ.put (some t) (.c (.v (.bool false))))
        | .tup [] => skip σ
        | _ => none
      | none => none

def runRegion {β : Type} (E : Env β) (draw : Bool) (ops : Array Oper) (σ : St) (K : St → Option β) : Option β :=
  let l := named E σ.heap.length ops.toList
  let σ := wider σ (needAll E ops.toList)
  bif draw then (bif E.P.follows .mixedOrders && edgesBack 0 ops.toList then runOpsD E ops (masks [] ops.toList) l 0 [] σ K else none) else runOps E ops l σ K

/-! a state at a loop's head -/
def reach (hp : List Ent) (pars : Nat) : Nat → List Nat → List Nat → List Nat
  | 0, _, acc => acc
  | _, [], acc => acc
  | f + 1, n :: l, acc => bif Nat.blt n pars || acc.contains n then reach hp pars f l acc
    else match hp.getD n .gone with
      | .box cs => reach hp pars f (cs.flatMap BV.names ++ l) (acc ++ [n])
      | _ => reach hp pars f l (acc ++ [n])

def renN (pars : Nat) (m : List Nat) (n : Nat) : Option Nat := bif Nat.blt n pars then some n else (posOf n 0 m).map (pars + ·)

def BV.ren (pars : Nat) (m : List Nat) : BV → BV
  | .ref n => (renN pars m n).elim .undef .ref
  | .sub n lo len => (renN pars m n).elim .undef fun n => .sub n lo len
  | .lit (some n) ho r xs => (renN pars m n).elim .undef fun n => .lit (some n) ho r xs
  | .ptrB n off => (renN pars m n).elim .undef fun n => .ptrB n off
  | .ptrE n i j => (renN pars m n).elim .undef fun n => .ptrE n i j
  | .ptrL (some n) r x j => (renN pars m n).elim .undef fun n => .ptrL (some n) r x j
  | .fn f caps => bif caps.all (fun c => match c with | .ref _ | .ptr _ _ => false | _ => true) then .fn f caps else .undef
  | b => b
def CV.ren (pars : Nat) (m : List Nat) : CV → CV
  | .v b => .v (b.ren pars m)
  | .agg cs => .agg (cs.map (·.ren pars m))
def TV.ren (pars : Nat) (m : List Nat) : TV → TV
  | .c x => .c (x.ren pars m)
  | .tup xs => .tup (xs.map (·.ren pars m))
def Ent.ren (pars : Nat) (m : List Nat) : Ent → Ent
  | .box cs => .box (cs.map (·.ren pars m))
  | .arr a => .arr { a with virt := false }
  | .gone => .gone
/-- ... what came in. -/
def Ent.renP (pars : Nat) (m : List Nat) : Ent → Ent
  | .box cs => .box (cs.map (·.ren pars m))
  | e => e

def rootsOf (pars : Nat) (h : List Ent) (l : List Nat) : List Nat := l ++ (h.take pars).flatMap Ent.roots
def orderOf (pars : Nat) (h : List Ent) (l : List Nat) : List Nat :=
  let roots := rootsOf pars h l
  reach h pars (roots.length + h.length) roots []

def renHeap (pars : Nat) (m : List Nat) (h : List Ent) : List Ent :=
  ((List.range pars).map fun n => (h.getD n .gone).renP pars m) ++ m.map fun n => (h.getD n .gone).ren pars m

/-- The values of the temporaries that count, and the rows and boxes that these reach, in an order of their own. -/
def compact (pars : Nat) (live : List Nat) (σ : St) : List TV × List Ent :=
  let vs := live.map σ.get
  let m := orderOf pars σ.heap (vs.flatMap TV.names)
  (vs.map (·.ren pars m), renHeap pars m σ.heap)

def expand (n : Nat) (live : List Nat) (vs : List TV) (hp : List Ent) : St :=
  { tmps := (live.zip vs).foldl (fun tm x => tm.set x.1 x.2) (List.replicate n .undef), heap := hp }

def seqK {β : Type} (f : St → Option β) (K : PX → St → Option β) : PX → St → Option β
  | .normal, σ => f σ
  | .exit i, σ => K (.exit i) σ
  | .ret, σ => K .ret σ
def blockK {β : Type} (id : Nat) (K : PX → St → Option β) : PX → St → Option β
  | .normal, σ => K .normal σ
  | .exit i, σ => bif Nat.beq i id then K .normal σ else K (.exit i) σ
  | .ret, σ => K .ret σ
/-- On to a place. -/
def goto {β : Type} (E : Env β) (key : Nat) (σ : St) : Option β := let c := compact E.pars (E.live key) σ; E.H key c.1 c.2

/-- The interpreter. 'cur': the block that is the innermost one. -/
def pev {β : Type} (E : Env β) (cur : Nat) : Code → St → (PX → St → Option β) → Option β
  | .skip, σ, K => K .normal σ
  | .seq a b, σ, K => pev E cur a σ (seqK (fun σ => pev E cur b σ K) K)
  | .cond c a b, σ, K => match opVal σ c with
    | .c (.v (.bool t)) => if t = true then pev E cur a σ K else pev E cur b σ K
    | _ => none
  | .block id c, σ, K => pev E id c σ (blockK id K)
  | .loop _, σ, _ => goto E (2 * cur) σ
  | .exit id, σ, K => K (.exit id) σ
  | .ret, σ, K => K .ret σ
  | .region id ops d, σ, K => bif E.cut id then goto E (2 * id + 1) σ
    else runRegion E d ops σ fun σ => K .normal σ
  | _, _, _ => none

/-! a function's begin and end -/
def enter (n : Nat) (args : List TV) (hp : List Ent) : St := { tmps := args ++ List.replicate (n - args.length) .undef, heap := hp }

def resultTV (P : Program) (σ : St) : ResultVar → Option CV
  | .tmp t => match σ.get t with
    | .c x => some x
    | _ => none
  | .cell t ty => match σ.get t with
    | .c (.v (.ptrB n off)) => match σ.heap.getD n .gone with
      | .box cs => match pickCells P ty cs off with
        | some (_, δ) => match δ.val with
          | .c x => some x
          | _ => none
        | none => none
      | _ => none
    | _ => none

def resultsTV (P : Program) (σ : St) : List ResultVar → Option (List CV)
  | [] => some []
  | r :: l => match resultTV P σ r, resultsTV P σ l with
    | some a, some b => some (a :: b)
    | _, _ => none

def finish (P : Program) (results : Array ResultVar) (pars : Nat) (e : PX) (σ : St) : Option Out :=
  match e with
  | .exit _ => none
  | _ => match resultsTV P σ results.toList with
    | none => none
    | some rs =>
      let v := match rs with | [r] => TV.c r | rs => .tup rs
      let m := orderOf pars σ.heap v.names
      some (v.ren pars m, renHeap pars m σ.heap)

/-- The code at a place, and the rest of the function behind it. -/
def kont {β : Type} (E : Env β) (key : Nat) (cur : Nat) : Code → (PX → St → Option β) → Option (Code × (PX → St → Option β))
  | .seq a b, K => match kont E key cur a (seqK (fun σ => pev E cur b σ K) K) with
    | some x => some x
    | none => kont E key cur b K
  | .cond _ a b, K => match kont E key cur a K with
    | some x => some x
    | none => kont E key cur b K
  | .block i c, K => kont E key i c (blockK i K)
  | .loop c, K => bif Nat.beq key (2 * cur) then some (.loop c, K) else
      -- an inner place: behind the round this loop goes on
      kont E key cur c (seqK (goto E (2 * cur)) K)
  | .region id ops d, K => bif E.cut id && Nat.beq key (2 * id + 1) then some (.region id ops d, K) else none
  | _, _ => none

/-- The places, in order. -/
def places (cut : Nat → Bool) (cur : Nat) : Code → List Nat
  | .seq a b | .cond _ a b => places cut cur a ++ places cut cur b
  | .block i c => places cut i c
  | .loop c => 2 * cur :: places cut cur c
  | .region id _ _ => bif cut id then [2 * id + 1] else []
  | _ => []

/-- From a place on. -/
def goOn {β : Type} (E : Env β) (key : Nat) (σ : St) : Code × (PX → St → Option β) → Option β
  | (.loop c, K) => pev E (key / 2) c σ (seqK (goto E key) K)
  | (.region _ ops d, K) => runRegion E d ops σ fun σ => K .normal σ
  | _ => none

end Go.Sx

/- What a typed value says of a value in memory, and what keeps it true. -/
namespace Go.Sx

inductive Zone where
  | frz | hid | box (n : Nat) | top (n : Nat)
  deriving DecidableEq

structure Gh where
  zone : Nat → Zone
  blk : Nat → Nat × Nat
  base : Nat → Option Addr
  cap : Nat → Nat

def Blk (w : World) (b : Nat) (vs : Array Value) : Prop := ∃ e fr, w.heap[b]? = some (.cells vs e fr)

theorem Blk.same {w w' : World} {b : Nat} {vs : Array Value} (h : Blk w b vs) (e : w'.heap[b]? = w.heap[b]?) : Blk w' b vs := by
  unfold Blk at *; rw [e]; exact h

theorem Blk.lt {w : World} {b : Nat} {vs : Array Value} (h : Blk w b vs) : b < w.heap.size := by
  obtain ⟨e, fr, h⟩ := h
  rcases Nat.lt_or_ge b w.heap.size with h' | h'
  · exact h'
  · rw [Array.getElem?_eq_none h'] at h; cases h

theorem Blk.cell {w : World} {b : Nat} {vs : Array Value} (h : Blk w b vs) (o : Nat) : w.cell? ⟨b, o, none⟩ = vs[o]? := by
  obtain ⟨e, fr, h⟩ := h
  simp [World.cell?, h]

mutual
/-- A value is what a cell of that type says; the rows that it leads to lie in blocks of the kind Z. -/
def RelCell (w : World) (Z : Nat → Prop) : (t : Ty) → Value → t.den → Prop
  | .int k, v, x => v = .int k x
  | .bool, v, x => v = .bool x
  | .str, v, x => v = .string x
  | .sl r, v, xs => (fun (ys : List r.den) => ∃ (base : Option Addr) (cap : Nat), v = .slice base ys.length cap ∧ ys.length ≤ cap ∧
      (cap = 0 ∨ ∃ (a : Addr) (vs : Array Value), base = some a ∧ a.spot = none ∧ Z a.block ∧ Blk w a.block vs ∧ a.off + cap * r.size ≤ vs.size ∧
        ∀ (i : Nat) (x : r.den), ys[i]? = some x → RelRow w Z r vs (a.off + i * r.size) x)) xs
def RelRow (w : World) (Z : Nat → Prop) : (r : Row) → Array Value → Nat → r.den → Prop
  | .one t, vs, o, x => ∃ v, vs[o]? = some v ∧ RelCell w Z t v x
  | .cons t r, vs, o, x => (∃ v, vs[o]? = some v ∧ RelCell w Z t v x.1) ∧ RelRow w Z r vs (o + 1) x.2
end

/-- A header with what it holds: the row's own block of the kind Zt, what it leads to of the kind Z. -/
def RelSl (w : World) (Zt Z : Nat → Prop) (r : Row) (base : Option Addr) (cap : Nat) (xs : List r.den) : Prop :=
  xs.length ≤ cap ∧ (cap = 0 ∨ ∃ a vs, base = some a ∧ a.spot = none ∧ Zt a.block ∧ Blk w a.block vs ∧ a.off + cap * r.size ≤ vs.size ∧
    ∀ (i : Nat) (x : r.den), xs[i]? = some x → RelRow w Z r vs (a.off + i * r.size) x)

theorem relCell_sl {w : World} {Z : Nat → Prop} {r : Row} {v : Value} {xs : List r.den} :
    RelCell w Z (.sl r) v xs ↔ ∃ base cap, v = .slice base xs.length cap ∧ RelSl w Z Z r base cap xs := by
  simp only [RelCell, RelSl]

mutual
theorem RelCell.mono {w w' : World} {Z Z' : Nat → Prop} (hz : ∀ b, b < w.heap.size → Z b → Z' b) (hw : ∀ b, b < w.heap.size → Z b → w'.heap[b]? = w.heap[b]?) :
    (t : Ty) → (v : Value) → (x : t.den) → RelCell w Z t v x → RelCell w' Z' t v x
  | .int k, v, x, h => by simp only [RelCell] at *; exact h
  | .bool, v, x, h => by simp only [RelCell] at *; exact h
  | .str, v, x, h => by simp only [RelCell] at *; exact h
  | .sl r, v, xs, h => by
    simp only [RelCell] at *
    obtain ⟨base, cap, hv, hl, hc⟩ := h
    refine ⟨base, cap, hv, hl, ?_⟩
    rcases hc with hc | ⟨a, vs, hb, hs, hza, hblk, hsz, hr⟩
    · exact .inl hc
    · exact .inr ⟨a, vs, hb, hs, hz _ hblk.lt hza, hblk.same (hw _ hblk.lt hza), hsz, fun i x hx => RelRow.mono hz hw r vs _ x (hr i x hx)⟩
theorem RelRow.mono {w w' : World} {Z Z' : Nat → Prop} (hz : ∀ b, b < w.heap.size → Z b → Z' b) (hw : ∀ b, b < w.heap.size → Z b → w'.heap[b]? = w.heap[b]?) :
    (r : Row) → (vs : Array Value) → (o : Nat) → (x : r.den) → RelRow w Z r vs o x → RelRow w' Z' r vs o x
  | .one t, vs, o, x, h => by
    simp only [RelRow] at *
    obtain ⟨v, h1, h2⟩ := h
    exact ⟨v, h1, RelCell.mono hz hw t v x h2⟩
  | .cons t r, vs, o, x, h => by
    simp only [RelRow] at *
    obtain ⟨⟨v, h1, h2⟩, h3⟩ := h
    exact ⟨⟨v, h1, RelCell.mono hz hw t v x.1 h2⟩, RelRow.mono hz hw r vs _ x.2 h3⟩
end

theorem RelSl.mono {w w' : World} {Zt Z Zt' Z' : Nat → Prop} {r : Row} {base : Option Addr} {cap : Nat} {xs : List r.den}
    (h : RelSl w Zt Z r base cap xs) (ht : ∀ b, b < w.heap.size → Zt b → Zt' b ∧ w'.heap[b]? = w.heap[b]?) (hz : ∀ b, b < w.heap.size → Z b → Z' b ∧ w'.heap[b]? = w.heap[b]?) :
    RelSl w' Zt' Z' r base cap xs := by
  obtain ⟨hl, hc⟩ := h
  refine ⟨hl, ?_⟩
  rcases hc with hc | ⟨a, vs, hb, hs, hza, hblk, hsz, hr⟩
  · exact .inl hc
  · exact .inr ⟨a, vs, hb, hs, (ht _ hblk.lt hza).1, hblk.same (ht _ hblk.lt hza).2, hsz, fun i x hx => RelRow.mono (fun b hb h => (hz b hb h).1) (fun b hb h => (hz b hb h).2) r vs _ x (hr i x hx)⟩

/-- A row reads the same out of an array that is alike there. -/
theorem RelRow.alike {w : World} {Z : Nat → Prop} : (r : Row) → {vs vs' : Array Value} → {o o' : Nat} → {x : r.den} → (∀ j, j < r.size → vs'[o' + j]? = vs[o + j]?) → RelRow w Z r vs o x → RelRow w Z r vs' o' x
  | .one t, vs, vs', o, o', x, he, h => by
    simp only [RelRow] at *
    obtain ⟨v, h1, h2⟩ := h
    have := he 0 (by simp [Row.size])
    simp only [Nat.add_zero] at this
    exact ⟨v, by rw [this]; exact h1, h2⟩
  | .cons t r, vs, vs', o, o', x, he, h => by
    simp only [RelRow] at *
    obtain ⟨⟨v, h1, h2⟩, h3⟩ := h
    have := he 0 (by simp [Row.size])
    simp only [Nat.add_zero] at this
    refine ⟨⟨v, by rw [this]; exact h1, h2⟩, RelRow.alike r (fun j hj => ?_) h3⟩
    have := he (j + 1) (by simp only [Row.size]; omega)
    rw [show o' + 1 + j = o' + (j + 1) by omega, show o + 1 + j = o + (j + 1) by omega]; exact this

theorem Row.size_pos : (r : Row) → 0 < r.size
  | .one _ => by simp [Row.size]
  | .cons _ _ => by simp [Row.size]

/-! the value of a cell, of a temporary -/
def RelCap (G : Gh) (h : List Ent) (v : Value) : CapV → Prop
  | .int k n => v = .int k n
  | .bool b => v = .bool b
  | .str s => v = .string s
  | .ref n => ∃ a, h[n]? = some (.arr a) ∧ v = .slice (G.base n) a.rows.length (G.cap n)
  | .ptr n off => ∃ cs, h[n]? = some (.box cs) ∧ v = .pointer (some ⟨(G.blk n).1, (G.blk n).2 + off, none⟩)

def RelB (G : Gh) (w : World) (h : List Ent) (v : Value) : BV → Prop
  | .undef => True
  | .int k n => v = .int k n
  | .bool b => v = .bool b
  | .str s => v = .string s
  | .ref n => ∃ a, h[n]? = some (.arr a) ∧ v = .slice (G.base n) a.rows.length (G.cap n)
  | .sub n lo len => ∃ a b, h[n]? = some (.arr a) ∧ lo + len ≤ a.rows.length ∧ v = .slice b len (G.cap n - lo) ∧ (G.cap n ≠ lo → b = (G.base n).map (·.add (lo * a.row.size)))
  | .lit none _ r xs => RelCell w (fun b => G.zone b = .frz) (.sl r) v xs
  | .lit (some _) _ _ _ => False
  | .ptrB n off => ∃ cs, h[n]? = some (.box cs) ∧ v = .pointer (some ⟨(G.blk n).1, (G.blk n).2 + off, none⟩)
  | .ptrE n i j => ∃ a ad, h[n]? = some (.arr a) ∧ i < a.rows.length ∧ G.base n = some ad ∧ v = .pointer (some ⟨ad.block, ad.off + i * a.row.size + j, none⟩)
  | .ptrL none r x j => ∃ b o vs, v = .pointer (some ⟨b, o + j, none⟩) ∧ G.zone b = .frz ∧ Blk w b vs ∧ RelRow w (fun b => G.zone b = .frz) r vs o x
  | .ptrL (some _) _ _ _ => False
  | .nilp => v = .pointer none
  | .emp _ => ∃ b, v = .slice b 0 0
  | .fn f caps => ∃ vs : Array Value, v = .func (.func f) #[] vs ∧ vs.size = caps.length ∧ ∀ (i : Nat) (c : CapV), caps[i]? = some c → ∃ u, vs[i]? = some u ∧ RelCap G h u c

def RelCV (G : Gh) (w : World) (h : List Ent) (v : Value) : CV → Prop
  | .v b => RelB G w h v b
  | .agg cs => ∃ vs : Array Value, v = .agg vs ∧ vs.size = cs.length ∧ ∀ (i : Nat) (b : BV), cs[i]? = some b → ∃ u, vs[i]? = some u ∧ u.oneCell' = true ∧ RelB G w h u b

def RelTV (G : Gh) (w : World) (h : List Ent) (v : Value) : TV → Prop
  | .c x => RelCV G w h v x
  | .tup xs => ∃ vs : Array Value, v = .tuple vs ∧ vs.size = xs.length ∧ ∀ (i : Nat) (x : CV), xs[i]? = some x → ∃ u, vs[i]? = some u ∧ RelCV G w h u x

/-- Where a row may lie: of its own; handed in to be read; frozen. -/
def ZArr (G : Gh) (n : Nat) (a : Arr) (b : Nat) : Prop := if a.own then G.zone b = .top n else if a.fix then (G.zone b = .frz ∨ G.zone b = .top n) else G.zone b = .frz

/-- The memory of a row (of bytes excepted) bears no mark behind its last cell. -/
def CleanAt (w : World) (r : Row) (base : Option Addr) (cap : Nat) : Prop := r ≠ .one (.int .u8) → cap ≠ 0 → ∀ ad vs, base = some ad → Blk w ad.block vs → w.frozen? ⟨ad.block, vs.size, none⟩ = false

theorem CleanAt.same {w w' : World} {Zt Z : Nat → Prop} {r : Row} {base : Option Addr} {cap : Nat} {xs : List r.den} (h : CleanAt w r base cap) (hs : RelSl w Zt Z r base cap xs) (he : ∀ b, b < w.heap.size → Zt b → w'.heap[b]? = w.heap[b]?) : CleanAt w' r base cap := by
  intro hr hc ad vs hb hv
  rcases hs.2 with h0 | ⟨a, vs', p1, _, p3, p4, _⟩
  · exact absurd h0 hc
  · rw [p1] at hb
    injection hb with hb
    subst hb
    have e := he _ p4.lt p3
    have := h hr hc a vs p1 (hv.same e.symm)
    unfold World.frozen? at *
    simp only [e]; exact this

def RelArr (G : Gh) (w : World) (n : Nat) (a : Arr) : Prop :=
  (a.plain = true ∧ (a.own = true → CleanAt w a.row (G.base n) (G.cap n))) ∧ (a.virt = true → G.cap n = 0) ∧ RelSl w (ZArr G n a) (fun b => G.zone b = .frz) a.row (G.base n) (G.cap n) a.rows

def RelBox (G : Gh) (w : World) (h : List Ent) (n : Nat) (cs : List BV) : Prop :=
  G.zone (G.blk n).1 = .box n ∧ ∃ vs, Blk w (G.blk n).1 vs ∧ (G.blk n).2 + cs.length ≤ vs.size ∧ ∀ (i : Nat) (b : BV), cs[i]? = some b → ∃ u, vs[(G.blk n).2 + i]? = some u ∧ u.oneCell' = true ∧ RelB G w h u b

def RelE (G : Gh) (w : World) (h : List Ent) (n : Nat) : Ent → Prop
  | .gone => True
  | .box cs => RelBox G w h n cs
  | .arr a => RelArr G w n a

/-- What may be written is not frozen. -/
def Thaw (G : Gh) (w : World) : Prop := ∀ b, G.zone b ≠ .frz → G.zone b ≠ .hid → ∀ vs, Blk w b vs → ∀ i, i < vs.size → w.frozen? ⟨b, i, none⟩ = false

structure RelH (G : Gh) (w : World) (h : List Ent) : Prop where
  ent : ∀ n e, h[n]? = some e → RelE G w h n e
  thaw : Thaw G w

/-- The world goes on: what is frozen stays as it is. -/
structure Ext (G : Gh) (w : World) (G' : Gh) (w' : World) : Prop where
  size : w.heap.size ≤ w'.heap.size
  os : w'.os = w.os
  tape : w'.tape = w.tape
  output : w'.output = w.output
  frz : ∀ b, b < w.heap.size → G.zone b = .frz → G'.zone b = .frz ∧ w'.heap[b]? = w.heap[b]?
  hid : ∀ b, b < w.heap.size → G.zone b = .hid → G'.zone b = .hid ∧ w'.heap[b]? = w.heap[b]?

theorem Ext.refl (G : Gh) (w : World) : Ext G w G w := ⟨Nat.le_refl _, rfl, rfl, rfl, fun _ _ h => ⟨h, rfl⟩, fun _ _ h => ⟨h, rfl⟩⟩

theorem Ext.trans {G G1 G2 : Gh} {w w1 w2 : World} (a : Ext G w G1 w1) (b : Ext G1 w1 G2 w2) : Ext G w G2 w2 :=
  ⟨Nat.le_trans a.size b.size, b.os.trans a.os, b.tape.trans a.tape, b.output.trans a.output, fun k hk hz =>
    have h1 := a.frz k hk hz
    have h2 := b.frz k (Nat.lt_of_lt_of_le hk a.size) h1.1
    ⟨h2.1, h2.2.trans h1.2⟩, fun k hk hz =>
    have h1 := a.hid k hk hz
    have h2 := b.hid k (Nat.lt_of_lt_of_le hk a.size) h1.1
    ⟨h2.1, h2.2.trans h1.2⟩⟩

theorem BV.oneCell {G : Gh} {w : World} {h : List Ent} {v : Value} : {b : BV} → b.known = true → RelB G w h v b → v.oneCell' = true
  | .undef, hk, _ => by cases hk
  | .int _ _, _, hr | .bool _, _, hr | .str _, _, hr | .nilp, _, hr => by simp only [RelB] at hr; rw [hr]; rfl
  | .emp _, _, hr => by obtain ⟨_, rfl⟩ := hr; rfl
  | .ref _, _, hr => by obtain ⟨_, _, rfl⟩ := hr; rfl
  | .sub _ _ _, _, hr => by obtain ⟨_, _, _, _, rfl, _⟩ := hr; rfl
  | .lit none _ r xs, _, hr => by
    have hr' : RelCell w (fun b => G.zone b = .frz) (.sl r) v xs := hr
    obtain ⟨_, _, rfl, _⟩ := relCell_sl.1 hr'; rfl
  | .lit (some _) _ _ _, _, hr => hr.elim
  | .ptrB _ _, _, hr => by obtain ⟨_, _, rfl⟩ := hr; rfl
  | .ptrE _ _ _, _, hr => by obtain ⟨_, _, _, _, _, rfl⟩ := hr; rfl
  | .ptrL none _ _ _, _, hr => by obtain ⟨_, _, _, rfl, _⟩ := hr; rfl
  | .ptrL (some _) _ _ _, _, hr => hr.elim
  | .fn _ _, _, hr => by obtain ⟨_, rfl, _⟩ := hr; rfl

/-- What becomes of the rows and boxes: those of T are turned, all others stay; references to those of ks are given up. -/
structure Trans (ks : List Nat) (T : Nat → Prop) (G : Gh) (w : World) (h : List Ent) (G' : Gh) (w' : World) (h' : List Ent) : Prop where
  ext : Ext G w G' w'
  un : ∀ n b, ¬ T n → b < w.heap.size → (G.zone b = .top n ∨ G.zone b = .box n) → G'.zone b = G.zone b ∧ w'.heap[b]? = w.heap[b]?
  gh : ∀ n, ¬ T n → G'.blk n = G.blk n ∧ G'.base n = G.base n ∧ G'.cap n = G.cap n
  kt : ∀ n, n ∈ ks → T n
  ent : ∀ n, ¬ T n → h'[n]? = (h[n]?).map (Ent.kill ks [])
  arr : ∀ n a, T n → n ∉ ks → h[n]? = some (.arr a) → ∃ a', h'[n]? = some (.arr a') ∧ a'.row = a.row ∧ a'.rows.length = a.rows.length ∧ G'.base n = G.base n ∧ G'.cap n = G.cap n
  box : ∀ n cs, T n → n ∉ ks → h[n]? = some (.box cs) → ∃ cs', h'[n]? = some (.box cs') ∧ G'.blk n = G.blk n
  thaw : Thaw G' w'

section
variable {ks : List Nat} {T : Nat → Prop} {G : Gh} {w : World} {h : List Ent} {G' : Gh} {w' : World} {h' : List Ent}

theorem Trans.arr' (t : Trans ks T G w h G' w' h') {n : Nat} {a : Arr} (hk : n ∉ ks) (ha : h[n]? = some (.arr a)) :
    ∃ a', h'[n]? = some (.arr a') ∧ a'.row = a.row ∧ a'.rows.length = a.rows.length ∧ G'.base n = G.base n ∧ G'.cap n = G.cap n := by
  by_cases hT : T n
  · exact t.arr n a hT hk ha
  · refine ⟨a, ?_, rfl, rfl, (t.gh n hT).2.1, (t.gh n hT).2.2⟩
    rw [t.ent n hT, ha]; rfl

theorem Trans.box' (t : Trans ks T G w h G' w' h') {n : Nat} {cs : List BV} (hk : n ∉ ks) (ha : h[n]? = some (.box cs)) :
    ∃ cs', h'[n]? = some (.box cs') ∧ G'.blk n = G.blk n := by
  by_cases hT : T n
  · exact t.box n cs hT hk ha
  · exact ⟨cs.map (·.kill ks []), by rw [t.ent n hT, ha]; rfl, (t.gh n hT).1⟩

theorem Trans.frzz (t : Trans ks T G w h G' w' h') : ∀ b, b < w.heap.size → G.zone b = .frz → G'.zone b = .frz ∧ w'.heap[b]? = w.heap[b]? := t.ext.frz

theorem not_mem_of_contains {n : Nat} {l : List Nat} (h : l.contains n = false) : n ∉ l := by
  intro hm
  rw [List.contains_iff_mem.2 hm] at h
  cases h

theorem Trans.cap (t : Trans ks T G w h G' w' h') {v : Value} {c : CapV} (hk : (c.names.any ks.contains) = false) (hr : RelCap G h v c) : RelCap G' h' v c := by
  cases c with
  | int k n => exact hr
  | bool b => exact hr
  | str s => exact hr
  | ref n =>
    simp only [CapV.names, List.any_cons, List.any_nil, Bool.or_false] at hk
    obtain ⟨a, ha, hv⟩ := hr
    obtain ⟨a', h1, h2, h3, h4, h5⟩ := t.arr' (not_mem_of_contains hk) ha
    exact ⟨a', h1, by rw [h3, h4, h5]; exact hv⟩
  | ptr n off =>
    simp only [CapV.names, List.any_cons, List.any_nil, Bool.or_false] at hk
    obtain ⟨a, ha, hv⟩ := hr
    obtain ⟨a', h1, h2⟩ := t.box' (not_mem_of_contains hk) ha
    exact ⟨a', h1, by rw [h2]; exact hv⟩

theorem Trans.relB (t : Trans ks T G w h G' w' h') {v : Value} : {b : BV} → b.hit ks [] = false → RelB G w h v b → RelB G' w' h' v b
  | .undef, _, _ => trivial
  | .int _ _, _, hr | .bool _, _, hr | .str _, _, hr | .nilp, _, hr | .emp _, _, hr => hr
  | .ref n, hk, hr => by
    obtain ⟨a, ha, hv⟩ := hr
    obtain ⟨a', h1, h2, h3, h4, h5⟩ := t.arr' (not_mem_of_contains hk) ha
    exact ⟨a', h1, by rw [h3, h4, h5]; exact hv⟩
  | .sub n lo len, hk, hr => by
    obtain ⟨a, b, ha, hl, hv, hb⟩ := hr
    obtain ⟨a', h1, h2, h3, h4, h5⟩ := t.arr' (not_mem_of_contains hk) ha
    exact ⟨a', b, h1, by rw [h3]; exact hl, by rw [h5]; exact hv, fun hc => by rw [h5] at hc; rw [h4, h2]; exact hb hc⟩
  | .lit none _ r xs, _, hr => RelCell.mono (fun b hb hz => (t.frzz b hb hz).1) (fun b hb hz => (t.frzz b hb hz).2) _ _ _ hr
  | .lit (some _) _ _ _, _, hr => hr.elim
  | .ptrB n off, hk, hr => by
    obtain ⟨a, ha, hv⟩ := hr
    obtain ⟨a', h1, h2⟩ := t.box' (not_mem_of_contains hk) ha
    exact ⟨a', h1, by rw [h2]; exact hv⟩
  | .ptrE n i j, hk, hr => by
    obtain ⟨a, ad, ha, hi, hb, hv⟩ := hr
    obtain ⟨a', h1, h2, h3, h4, h5⟩ := t.arr' (not_mem_of_contains hk) ha
    exact ⟨a', ad, h1, by rw [h3]; exact hi, by rw [h4]; exact hb, by rw [h2]; exact hv⟩
  | .ptrL none r x j, _, hr => by
    obtain ⟨b, o, vs, hv, hz, hb, hx⟩ := hr
    exact ⟨b, o, vs, hv, (t.frzz b hb.lt hz).1, hb.same (t.frzz b hb.lt hz).2, RelRow.mono (fun b hb hz => (t.frzz b hb hz).1) (fun b hb hz => (t.frzz b hb hz).2) _ _ _ _ hx⟩
  | .ptrL (some _) _ _ _, _, hr => hr.elim
  | .fn f caps, hk, hr => by
    obtain ⟨vs, hv, hs, hc⟩ := hr
    refine ⟨vs, hv, hs, fun i c hi => ?_⟩
    obtain ⟨u, h1, h2⟩ := hc i c hi
    refine ⟨u, h1, t.cap ?_ h2⟩
    simp only [BV.hit, List.any_eq_false] at hk
    have := hk c (List.mem_of_getElem? hi)
    simpa using this

theorem Trans.relKill (t : Trans ks T G w h G' w' h') {v : Value} {b : BV} (hr : RelB G w h v b) : RelB G' w' h' v (b.kill ks []) := by
  unfold BV.kill
  cases hk : b.hit ks [] with
  | true => exact trivial
  | false => exact t.relB hk hr

theorem Trans.relCV (t : Trans ks T G w h G' w' h') {v : Value} {x : CV} (hr : RelCV G w h v x) : RelCV G' w' h' v (x.kill ks []) := by
  cases x with
  | v b => exact t.relKill hr
  | agg cs =>
    obtain ⟨vs, hv, hs, hc⟩ := hr
    refine ⟨vs, hv, by simpa using hs, fun i b hi => ?_⟩
    rw [List.getElem?_map] at hi
    cases hq : cs[i]? with
    | none => rw [hq] at hi; cases hi
    | some b' =>
      rw [hq] at hi
      simp only [Option.map_some, Option.some.injEq] at hi
      obtain ⟨u, h1, h2, h3⟩ := hc i b' hq
      exact ⟨u, h1, h2, by rw [← hi]; exact t.relKill h3⟩

theorem Trans.relTV (t : Trans ks T G w h G' w' h') {v : Value} {x : TV} (hr : RelTV G w h v x) : RelTV G' w' h' v (x.kill ks []) := by
  cases x with
  | c x => exact t.relCV hr
  | tup xs =>
    obtain ⟨vs, hv, hs, hc⟩ := hr
    refine ⟨vs, hv, by simpa using hs, fun i b hi => ?_⟩
    rw [List.getElem?_map] at hi
    cases hq : xs[i]? with
    | none => rw [hq] at hi; cases hi
    | some b' =>
      rw [hq] at hi
      simp only [Option.map_some, Option.some.injEq] at hi
      obtain ⟨u, h1, h2⟩ := hc i b' hq
      exact ⟨u, h1, by rw [← hi]; exact t.relCV h2⟩

/-- All rows and boxes that are not turned are as they were. -/
theorem Trans.relH (t : Trans ks T G w h G' w' h') (hh : RelH G w h) (hT : ∀ n e, T n → h'[n]? = some e → RelE G' w' h' n e) : RelH G' w' h' := by
  refine ⟨fun n e he => ?_, t.thaw⟩
  by_cases hn : T n
  · exact hT n e hn he
  · rw [t.ent n hn] at he
    cases hq : h[n]? with
    | none => rw [hq] at he; cases he
    | some e0 =>
      rw [hq] at he
      simp only [Option.map_some, Option.some.injEq] at he
      have hr := hh.ent n e0 hq
      subst he
      obtain ⟨g1, g2, g3⟩ := t.gh n hn
      cases e0 with
      | gone => exact trivial
      | arr a =>
        show RelArr G' w' n a
        obtain ⟨p1, p2, p3⟩ := hr
        refine ⟨⟨p1.1, fun ho => ?_⟩, by rw [g3]; exact p2, ?_⟩
        · rw [g2, g3]
          exact (p1.2 ho).same p3 fun b hb hz => (t.un n b hn hb (.inl (by simpa only [ZArr, ho, if_true] using hz))).2
        rw [g2, g3]
        refine p3.mono (fun b hb hz => ?_) t.frzz
        unfold ZArr at hz ⊢
        split at hz
        · rename_i ho
          rw [if_pos ho]
          obtain ⟨q1, q2⟩ := t.un n b hn hb (.inl hz)
          exact ⟨q1.trans hz, q2⟩
        · rename_i ho
          rw [if_neg ho]
          split at hz
          · rename_i hf
            rw [if_pos hf]
            rcases hz with hz | hz
            · exact ⟨.inl (t.frzz b hb hz).1, (t.frzz b hb hz).2⟩
            · obtain ⟨q1, q2⟩ := t.un n b hn hb (.inl hz)
              exact ⟨.inr (q1.trans hz), q2⟩
          · rename_i hf
            rw [if_neg hf]
            exact t.frzz b hb hz
      | box cs =>
        show RelBox G' w' h' n (cs.map (·.kill ks []))
        obtain ⟨p1, vs, p2, p3, p4⟩ := hr
        obtain ⟨q1, q2⟩ := t.un n _ hn p2.lt (.inr p1)
        unfold RelBox
        rw [g1]
        refine ⟨q1.trans p1, vs, p2.same q2, by simpa using p3, fun i b hi => ?_⟩
        rw [List.getElem?_map] at hi
        cases hq : cs[i]? with
        | none => rw [hq] at hi; cases hi
        | some b' =>
          rw [hq] at hi
          simp only [Option.map_some, Option.some.injEq] at hi
          obtain ⟨u, h1, h2, h3⟩ := p4 i b' hq
          exact ⟨u, h1, h2, by rw [← hi]; exact t.relKill h3⟩
end

end Go.Sx

/- What one operation does: the frame. -/
namespace Go.Sx

def newHeap (h : List Ent) (δ : Delta) : List Ent := setAll (bif δ.calm then h else killHeap δ.kills δ.litk 0 h) δ.sets

/-- An operation has gone from here to there, and yielded v. -/
def Done (pars : Nat) (G : Gh) (w : World) (h : List Ent) (δ : Delta) (v : Value) (w' : World) : Prop :=
  ∃ (G' : Gh) (T : Nat → Prop), Trans δ.kills T G w h G' w' (newHeap h δ) ∧ (∀ n e, T n → (newHeap h δ)[n]? = some e → RelE G' w' (newHeap h δ) n e) ∧
    RelTV G' w' (newHeap h δ) v δ.val ∧ (∀ n, n < pars → G'.blk n = G.blk n) ∧
    (∀ n a, T n → (newHeap h δ)[n]? = some (.arr a) → a.fix = true → n ∉ δ.kills ∧ a.own = true ∧ G'.base n = G.base n ∧ G'.cap n = G.cap n ∧ ∃ a0, h[n]? = some (.arr a0) ∧ a0.fix = true) ∧
    (∀ n a0, T n → h[n]? = some (.arr a0) → a0.own = false → n ∉ δ.kills ∧ (newHeap h δ)[n]? = some (.arr a0.frz) ∧ G'.base n = G.base n ∧ G'.cap n = G.cap n ∧ ∀ b, b < w.heap.size → G.zone b = .top n → G'.zone b = .frz ∧ w'.heap[b]? = w.heap[b]?)

theorem Ent.kill_nil (e : Ent) : e.kill [] [] = e := by
  have hb : ∀ b : BV, b.kill [] [] = b := by
    intro b
    unfold BV.kill
    cases b <;> (try rfl)
    case lit s ho r xs => cases s <;> rfl
    case ptrL s r x j => cases s <;> rfl
    case fn f caps =>
      have : (caps.any fun c => c.names.any ([] : List Nat).contains) = false := by
        rw [List.any_eq_false]
        intro c _
        have : (c.names.any ([] : List Nat).contains) = false := by rw [List.any_eq_false]; intro n _; simp
        simp [this]
      simp only [BV.hit, this, cond_false]
  cases e with
  | box cs =>
    simp only [Ent.kill]
    congr 1
    conv => rhs; rw [← List.map_id cs]
    apply List.map_congr_left
    intro b _
    exact hb b
  | gone => rfl
  | arr a => rfl

theorem killHeap_get (ks lk : List Nat) : ∀ (h : List Ent) (k n : Nat), (killHeap ks lk k h)[n]? = (h[n]?).map fun e => bif ks.contains (k + n) then .gone else e.kill ks lk
  | [], k, n => by simp [killHeap]
  | e :: l, k, 0 => by simp [killHeap]
  | e :: l, k, n + 1 => by
    simp only [killHeap, List.getElem?_cons_succ]
    rw [killHeap_get ks lk l (k + 1) n]
    simp only [show k + 1 + n = k + (n + 1) by omega]

theorem setAll_other : ∀ (S : List (Nat × Ent)) (h : List Ent) (n : Nat), (∀ x ∈ S, x.1 ≠ n) → (setAll h S)[n]? = h[n]?
  | [], h, n, _ => rfl
  | x :: S, h, n, hn => by
    unfold setAll
    simp only [List.foldl_cons]
    have := setAll_other S (h.set x.1 x.2) n (fun y hy => hn y (List.mem_cons_of_mem _ hy))
    unfold setAll at this
    rw [this, List.getElem?_set_ne (hn x List.mem_cons_self)]

theorem setAll_length : ∀ (S : List (Nat × Ent)) (h : List Ent), (setAll h S).length = h.length
  | [], h => rfl
  | x :: S, h => by
    unfold setAll
    simp only [List.foldl_cons]
    have := setAll_length S (h.set x.1 x.2)
    unfold setAll at this
    rw [this, List.length_set]

theorem setAll_mem : ∀ (S : List (Nat × Ent)) (h : List Ent) (x : Nat × Ent), x ∈ S → (S.map (·.1)).Nodup → x.1 < h.length → (setAll h S)[x.1]? = some x.2
  | y :: S, h, x, hx, hd, hl => by
    unfold setAll
    simp only [List.foldl_cons]
    simp only [List.map_cons, List.nodup_cons] at hd
    rcases List.mem_cons.1 hx with rfl | hx
    · have := setAll_other S (h.set x.1 x.2) x.1 (fun z hz e => hd.1 (by rw [← e]; exact List.mem_map_of_mem hz))
      unfold setAll at this
      rw [this, List.getElem?_set_self hl]
    · have := setAll_mem S (h.set y.1 y.2) x hx hd.2 (by rw [List.length_set]; exact hl)
      unfold setAll at this
      exact this

theorem setAll_inv {S : List (Nat × Ent)} {h : List Ent} {n : Nat} {e : Ent} (hd : (S.map (·.1)).Nodup) (hn : n ∈ S.map (·.1)) (he : (setAll h S)[n]? = some e) : (n, e) ∈ S := by
  obtain ⟨x, hx, rfl⟩ := List.mem_map.1 hn
  have hl : x.1 < h.length := by
    rcases Nat.lt_or_ge x.1 h.length with h1 | h1
    · exact h1
    · rw [List.getElem?_eq_none (by rw [setAll_length]; exact h1)] at he; cases he
  rw [setAll_mem S h x hx hd hl] at he
  simp only [Option.some.injEq] at he
  rw [← he]
  exact hx

theorem newHeap_length (h : List Ent) (δ : Delta) : (newHeap h δ).length = h.length := by
  unfold newHeap
  rw [setAll_length]
  cases δ.calm with
  | true => rfl
  | false =>
    simp only [cond_false]
    suffices ∀ (l : List Ent) k, (killHeap δ.kills δ.litk k l).length = l.length from this h 0
    intro l
    induction l with
    | nil => intro k; rfl
    | cons e l ih => intro k; simp [killHeap, ih]

/-- What is not set and not given up. -/
theorem newHeap_other {h : List Ent} {δ : Delta} (hl : δ.litk = []) {n : Nat} (hk : n ∉ δ.kills) (hs : ∀ x ∈ δ.sets, x.1 ≠ n) : (newHeap h δ)[n]? = (h[n]?).map (Ent.kill δ.kills []) := by
  unfold newHeap
  rw [setAll_other _ _ _ hs]
  cases hc : δ.calm with
  | true =>
    simp only [cond_true]
    have : δ.kills = [] := by
      unfold Delta.calm at hc
      simp only [Bool.and_eq_true, List.isEmpty_iff] at hc
      exact hc.1
    rw [this]
    cases h[n]? with
    | none => rfl
    | some e => simp [Ent.kill_nil]
  | false =>
    simp only [cond_false]
    rw [killHeap_get, Nat.zero_add]
    have : δ.kills.contains n = false := by
      cases hq : δ.kills.contains n with
      | false => rfl
      | true => exact absurd (List.contains_iff_mem.1 hq) hk
    rw [this, hl]
    rfl

/-- What is given up, and not set anew. -/
theorem newHeap_gone {h : List Ent} {δ : Delta} {n : Nat} (hk : n ∈ δ.kills) (hs : ∀ x ∈ δ.sets, x.1 ≠ n) {e : Ent} (he : (newHeap h δ)[n]? = some e) : e = .gone := by
  unfold newHeap at he
  rw [setAll_other _ _ _ hs] at he
  have hc : δ.calm = false := by
    unfold Delta.calm
    cases hq : δ.kills with
    | nil => rw [hq] at hk; cases hk
    | cons a l => rfl
  rw [hc] at he
  simp only [cond_false] at he
  rw [killHeap_get, Nat.zero_add] at he
  rw [List.contains_iff_mem.2 hk] at he
  cases hq : h[n]? with
  | none => rw [hq] at he; cases he
  | some e' => rw [hq] at he; simpa using he.symm

/-- The values alone: nothing is turned. -/
theorem done_val {pars : Nat} {G : Gh} {w w' : World} {h : List Ent} {x : TV} {v : Value} (hh : RelH G w h)
    (hheap : w'.heap = w.heap) (ho : w'.os = w.os) (ht : w'.tape = w.tape) (hu : w'.output = w.output) (hr : RelTV G w h v x) : Done pars G w h { val := x } v w' := by
  have hn : newHeap h { val := x } = h := rfl
  have tr : Trans [] (fun _ => False) G w h G w' h := by
    refine ⟨⟨by rw [hheap]; exact Nat.le_refl _, ho, ht, hu, fun b _ hz => ⟨hz, by rw [hheap]⟩, fun b _ hz => ⟨hz, by rw [hheap]⟩⟩, fun n b _ _ _ => ⟨rfl, by rw [hheap]⟩, fun n _ => ⟨rfl, rfl, rfl⟩, fun n hn => (List.not_mem_nil hn).elim, fun n _ => ?_, fun _ _ hf => hf.elim, fun _ _ hf => hf.elim, ?_⟩
    · cases h[n]? with
      | none => rfl
      | some e => simp [Ent.kill_nil]
    · intro b hz hz' vs hb i hi
      have := hh.thaw b hz hz' vs (by unfold Blk at *; rw [← hheap]; exact hb) i hi
      unfold World.frozen? at *
      rw [hheap]; exact this
  refine ⟨G, fun _ => False, by rw [hn]; exact tr, fun _ _ hf => hf.elim, ?_, fun _ _ => rfl, fun _ _ hf => hf.elim, fun _ _ hf => hf.elim⟩
  rw [hn]
  have hk : x.kill [] [] = x := by
    have hb : ∀ b : BV, b.kill [] [] = b := by
      intro b
      have := Ent.kill_nil (.box [b])
      simp only [Ent.kill, List.map_cons, List.map_nil, Ent.box.injEq, List.cons.injEq, and_true] at this
      exact this
    have hc : ∀ c : CV, c.kill [] [] = c := by
      intro c
      cases c with
      | v b => simp only [CV.kill, hb]
      | agg cs =>
        simp only [CV.kill]
        congr 1
        conv => rhs; rw [← List.map_id cs]
        exact List.map_congr_left fun b _ => hb b
    cases x with
    | c c => simp only [TV.kill, hc]
    | tup xs =>
      simp only [TV.kill]
      congr 1
      conv => rhs; rw [← List.map_id xs]
      exact List.map_congr_left fun b _ => hc b
  have := tr.relTV hr
  rwa [hk] at this

/-- The zone behind some rows being frozen. -/
def Zone.drop (ks : List Nat) : Zone → Zone
  | .top m => if m ∈ ks then .frz else .top m
  | z => z

theorem Zone.drop_or (ks : List Nat) (z : Zone) : z.drop ks = z ∨ ∃ m, m ∈ ks ∧ z = .top m ∧ z.drop ks = .frz := by
  cases z with
  | frz => exact .inl rfl
  | hid => exact .inl rfl
  | box n => exact .inl rfl
  | top m =>
    by_cases hm : m ∈ ks
    · exact .inr ⟨m, hm, rfl, by simp [Zone.drop, hm]⟩
    · exact .inl (by simp [Zone.drop, hm])

theorem Zone.drop_nil (z : Zone) : z.drop [] = z := by cases z <;> simp [Zone.drop]

/-- Rows and boxes are set (those of S: laid anew, or written); rows are frozen (those of F). -/
theorem done_fz {pars : Nat} {G G' : Gh} {w w' : World} {h : List Ent} {S F : List (Nat × Ent)} {ks : List Nat} {x : TV} {v : Value} (hh : RelH G w h)
    (hd : ((S ++ F).map (·.1)).Nodup) (hS : ∀ y ∈ S, y.1 < h.length) (hF : ∀ y ∈ F, y.1 ∉ ks ∧ ∃ a, h[y.1]? = some (.arr a) ∧ y.2 = .arr a.frz)
    (hsize : w.heap.size ≤ w'.heap.size) (ho : w'.os = w.os) (ht : w'.tape = w.tape) (hu : w'.output = w.output)
    (hold : ∀ b, b < w.heap.size → (∀ m, (m ∈ ks ∨ m ∈ S.map (·.1)) → G.zone b ≠ .top m ∧ G.zone b ≠ .box m) → w'.heap[b]? = w.heap[b]?)
    (hz : ∀ b, b < w.heap.size → G'.zone b = (G.zone b).drop (F.map (·.1)))
    (hg : ∀ n, n ∉ ks → n ∉ S.map (·.1) → G'.blk n = G.blk n ∧ G'.base n = G.base n ∧ G'.cap n = G.cap n)
    (harr : ∀ y ∈ S, y.1 ∉ ks → ∀ a, h[y.1]? = some (.arr a) → ∃ a', y.2 = .arr a' ∧ a'.row = a.row ∧ a'.rows.length = a.rows.length ∧ G'.base y.1 = G.base y.1 ∧ G'.cap y.1 = G.cap y.1)
    (hbox : ∀ y ∈ S, y.1 ∉ ks → ∀ cs, h[y.1]? = some (.box cs) → ∃ cs', y.2 = .box cs' ∧ G'.blk y.1 = G.blk y.1)
    (hth : ∀ b, G'.zone b ≠ .frz → G'.zone b ≠ .hid → (b < w.heap.size → ∃ m, (m ∈ ks ∨ m ∈ S.map (·.1)) ∧ (G.zone b = .top m ∨ G.zone b = .box m)) → ∀ vs, Blk w' b vs → ∀ i, i < vs.size → w'.frozen? ⟨b, i, none⟩ = false)
    (hblk : ∀ n, n < pars → G'.blk n = G.blk n)
    (himm : ∀ n a0, (n ∈ ks ∨ n ∈ S.map (·.1)) → h[n]? = some (.arr a0) → a0.own = true)
    (hfix : ∀ n a, (n, Ent.arr a) ∈ S → a.fix = true → n ∉ ks ∧ a.own = true ∧ G'.base n = G.base n ∧ G'.cap n = G.cap n ∧ ∃ a0, h[n]? = some (.arr a0) ∧ a0.fix = true)
    (hr : ∀ (_ : Trans ks (fun n => n ∈ ks ∨ n ∈ (S ++ F).map (·.1)) G w h G' w' (newHeap h { val := x, sets := S ++ F, kills := ks })) n e, (n, e) ∈ S → RelE G' w' (newHeap h { val := x, sets := S ++ F, kills := ks }) n e)
    (hv : ∀ (_ : Trans ks (fun n => n ∈ ks ∨ n ∈ (S ++ F).map (·.1)) G w h G' w' (newHeap h { val := x, sets := S ++ F, kills := ks })), RelTV G' w' (newHeap h { val := x, sets := S ++ F, kills := ks }) v x) :
    Done pars G w h { val := x, sets := S ++ F, kills := ks } v w' := by
  have hne : ∀ {n}, n ∉ (S ++ F).map (·.1) → ∀ y ∈ S ++ F, y.1 ≠ n := fun hn y hy e => hn (by rw [← e]; exact List.mem_map_of_mem (f := (·.1)) hy)
  have hSF : ∀ {n}, n ∉ (S ++ F).map (·.1) → n ∉ S.map (·.1) ∧ n ∉ F.map (·.1) := fun hn => by
    rw [List.map_append, List.mem_append] at hn
    exact ⟨fun e => hn (.inl e), fun e => hn (.inr e)⟩
  have hlt : ∀ y ∈ S ++ F, y.1 < h.length := fun y hy => by
    rcases List.mem_append.1 hy with hy | hy
    · exact hS y hy
    · obtain ⟨_, a, ha, _⟩ := hF y hy
      exact (List.getElem?_eq_some_iff.1 ha).1
  have hget : ∀ y ∈ S ++ F, (newHeap h { val := x, sets := S ++ F, kills := ks })[y.1]? = some y.2 := fun y hy => by
    unfold newHeap
    refine setAll_mem _ _ y hy hd ?_
    have := newHeap_length h { val := x, sets := S ++ F, kills := ks }
    unfold newHeap at this
    rw [setAll_length] at this
    rw [this]; exact hlt y hy
  have hdisj : ∀ {n}, n ∈ F.map (·.1) → n ∉ S.map (·.1) := fun hn hn' => by
    rw [List.map_append, List.nodup_append] at hd
    exact hd.2.2 _ hn' _ hn rfl
  have tr : Trans ks (fun n => n ∈ ks ∨ n ∈ (S ++ F).map (·.1)) G w h G' w' (newHeap h { val := x, sets := S ++ F, kills := ks }) := by
    refine ⟨⟨hsize, ho, ht, hu, fun b hb hq => ⟨?_, hold b hb ?_⟩, fun b hb hq => ⟨?_, hold b hb ?_⟩⟩, fun n b hn hb hq => ⟨?_, hold b hb ?_⟩, fun n hn => hg n (fun e => hn (.inl e)) (fun e => hn (.inr (by rw [List.map_append]; exact List.mem_append_left _ e))), fun n hn => .inl hn, fun n hn => newHeap_other rfl (fun hm => hn (.inl hm)) (hne fun hm => hn (.inr hm)), ?_, ?_, ?_⟩
    · rw [hz b hb, hq]; rfl
    · intro m _; rw [hq]; exact ⟨by simp, by simp⟩
    · rw [hz b hb, hq]; rfl
    · intro m _; rw [hq]; exact ⟨by simp, by simp⟩
    · rw [hz b hb]
      rcases hq with hq | hq
      · rw [hq]
        have : n ∉ F.map (·.1) := (hSF fun e => hn (.inr e)).2
        simp only [Zone.drop, if_neg this]
      · rw [hq]; rfl
    · intro m hm
      have hmn : m ≠ n := by
        rintro rfl
        rcases hm with hm | hm
        · exact hn (.inl hm)
        · exact (hSF fun e => hn (.inr e)).1 hm
      rcases hq with hq | hq <;> rw [hq]
      · exact ⟨fun e => by injection e with e; exact hmn e.symm, by simp⟩
      · exact ⟨by simp, fun e => by injection e with e; exact hmn e.symm⟩
    · intro n a hT hk ha
      rcases hT with hT | hT
      · exact absurd hT hk
      · obtain ⟨y, hy, rfl⟩ := List.mem_map.1 hT
        rcases List.mem_append.1 hy with hy' | hy'
        · obtain ⟨a', e1, e2⟩ := harr y hy' hk a ha
          exact ⟨a', by rw [hget y hy, e1], e2⟩
        · obtain ⟨_, a0, ha0, e1⟩ := hF y hy'
          rw [ha] at ha0
          injection ha0 with ha0
          injection ha0 with ha0
          subst ha0
          have hgf := hg y.1 hk (hdisj (List.mem_map_of_mem (f := (·.1)) hy'))
          exact ⟨a.frz, by rw [hget y hy, e1], rfl, rfl, hgf.2.1, hgf.2.2⟩
    · intro n cs hT hk ha
      rcases hT with hT | hT
      · exact absurd hT hk
      · obtain ⟨y, hy, rfl⟩ := List.mem_map.1 hT
        rcases List.mem_append.1 hy with hy' | hy'
        · obtain ⟨cs', e1, e2⟩ := hbox y hy' hk cs ha
          exact ⟨cs', by rw [hget y hy, e1], e2⟩
        · obtain ⟨_, a0, ha0, e1⟩ := hF y hy'
          rw [ha] at ha0
          cases ha0
    · intro b hq hq' vs hb i hi
      by_cases hT : b < w.heap.size → ∃ m, (m ∈ ks ∨ m ∈ S.map (·.1)) ∧ (G.zone b = .top m ∨ G.zone b = .box m)
      · exact hth b hq hq' hT vs hb i hi
      · have hb0 : b < w.heap.size := Classical.byContradiction fun e => hT fun e' => absurd e' e
        have hno : ∀ m, (m ∈ ks ∨ m ∈ S.map (·.1)) → G.zone b ≠ .top m ∧ G.zone b ≠ .box m := fun m hm => ⟨fun e => hT fun _ => ⟨m, hm, .inl e⟩, fun e => hT fun _ => ⟨m, hm, .inr e⟩⟩
        have hsame := hold b hb0 hno
        have hzz := hz b hb0
        have := hh.thaw b (fun e => hq (by rw [hzz, e]; rfl)) (fun e => hq' (by rw [hzz, e]; rfl)) vs (hb.same hsame.symm) i hi
        unfold World.frozen? at *
        simp only [hsame]; exact this
  refine ⟨G', _, tr, fun n e hT he => ?_, hv tr, hblk, fun n a hT he hfx => ?_, fun n a0 hT ha0 hown => ?_⟩
  rotate_left 2
  · have hks : n ∉ ks := fun hm => by rw [himm n a0 (.inl hm) ha0] at hown; cases hown
    have hnS : n ∉ S.map (·.1) := fun hm => by rw [himm n a0 (.inr hm) ha0] at hown; cases hown
    have hgf := hg n hks hnS
    rcases hT with hT | hT
    · exact absurd hT hks
    · rw [List.map_append] at hT
      rcases List.mem_append.1 hT with hT | hT
      · exact absurd hT hnS
      · obtain ⟨y, hy, rfl⟩ := List.mem_map.1 hT
        obtain ⟨_, a, ha, e1⟩ := hF y hy
        rw [ha0] at ha
        injection ha with ha
        injection ha with ha
        subst ha
        refine ⟨hks, by rw [hget y (List.mem_append_right _ hy), e1], hgf.2.1, hgf.2.2, fun b hb hzb => ⟨?_, hold b hb fun m hm => ?_⟩⟩
        · rw [hz b hb, hzb]
          simp only [Zone.drop, if_pos (List.mem_map_of_mem (f := (·.1)) hy)]
        · rw [hzb]
          refine ⟨fun e => ?_, by simp⟩
          injection e with e
          subst e
          rcases hm with hm | hm
          · exact hks hm
          · exact hnS hm
  · by_cases hm : n ∈ (S ++ F).map (·.1)
    · have hmem := setAll_inv hd hm he
      rcases List.mem_append.1 hmem with hmem | hmem
      · exact hr tr n e hmem
      · obtain ⟨hnk, a, ha, e1⟩ := hF _ hmem
        simp only at ha e1 hnk
        subst e1
        have hnF : n ∈ F.map (·.1) := List.mem_map_of_mem (f := (·.1)) hmem
        have hgf := hg n hnk (hdisj hnF)
        obtain ⟨r1, r2, r3⟩ : RelArr G w n a := hh.ent n _ ha
        refine ⟨⟨r1.1, fun ho => by cases ho⟩, by rw [hgf.2.2]; exact r2, ?_⟩
        rw [hgf.2.1, hgf.2.2]
        refine RelSl.mono (r := a.row) (xs := a.rows) r3 (fun b hb hzb => ?_) tr.frzz
        show ZArr G' n a.frz b ∧ _
        have hzn : G.zone b = .frz ∨ G.zone b = .top n := by
          unfold ZArr at hzb
          split at hzb
          · exact .inr hzb
          · split at hzb
            · exact hzb
            · exact .inl hzb
        refine ⟨?_, hold b hb fun m hm => ?_⟩
        · simp only [ZArr, Arr.frz, Bool.false_eq_true, if_false]
          rw [hz b hb]
          rcases hzn with e | e <;> rw [e]
          · rfl
          · simp only [Zone.drop, if_pos hnF]
        · rcases hzn with e | e <;> rw [e]
          · exact ⟨by simp, by simp⟩
          · refine ⟨fun e' => ?_, by simp⟩
            injection e' with e'
            subst e'
            rcases hm with hm | hm
            · exact hnk hm
            · exact hdisj hnF hm
    · rcases hT with hT | hT
      · rw [newHeap_gone hT (hne hm) he]; exact trivial
      · exact absurd hT hm
  · by_cases hm : n ∈ (S ++ F).map (·.1)
    · have hmem := setAll_inv hd hm he
      rcases List.mem_append.1 hmem with hmem | hmem
      · exact hfix n a hmem hfx
      · obtain ⟨_, a0, _, e1⟩ := hF _ hmem
        simp only [Ent.arr.injEq] at e1
        subst e1
        cases hfx
    · rcases hT with hT | hT
      · have := newHeap_gone hT (hne hm) he; cases this
      · exact absurd hT hm

/-- Rows and boxes are laid anew; rows are frozen. -/
theorem done_fresh {pars : Nat} {G G' : Gh} {w w' : World} {h : List Ent} {S F : List (Nat × Ent)} {x : TV} {v : Value} (hh : RelH G w h)
    (hd : ((S ++ F).map (·.1)).Nodup) (hfresh : ∀ y ∈ S, h[y.1]? = some .gone) (hp : ∀ y ∈ S, pars ≤ y.1) (hF : ∀ y ∈ F, ∃ a, h[y.1]? = some (.arr a) ∧ y.2 = .arr a.frz)
    (hsize : w.heap.size ≤ w'.heap.size) (ho : w'.os = w.os) (ht : w'.tape = w.tape) (hu : w'.output = w.output)
    (hold : ∀ b, b < w.heap.size → w'.heap[b]? = w.heap[b]?)
    (hz : ∀ b, b < w.heap.size → G'.zone b = (G.zone b).drop (F.map (·.1)))
    (hg : ∀ n, n ∉ S.map (·.1) → G'.blk n = G.blk n ∧ G'.base n = G.base n ∧ G'.cap n = G.cap n)
    (hnew : ∀ b, w.heap.size ≤ b → ∀ vs, Blk w' b vs → ∀ i, i < vs.size → w'.frozen? ⟨b, i, none⟩ = false)
    (hf : ∀ n a, (n, Ent.arr a) ∈ S → a.fix = false)
    (hr : ∀ (_ : Trans [] (fun n => n ∈ ([] : List Nat) ∨ n ∈ (S ++ F).map (·.1)) G w h G' w' (newHeap h { val := x, sets := S ++ F })) n e, (n, e) ∈ S → RelE G' w' (newHeap h { val := x, sets := S ++ F }) n e)
    (hv : ∀ (_ : Trans [] (fun n => n ∈ ([] : List Nat) ∨ n ∈ (S ++ F).map (·.1)) G w h G' w' (newHeap h { val := x, sets := S ++ F })), RelTV G' w' (newHeap h { val := x, sets := S ++ F }) v x) : Done pars G w h { val := x, sets := S ++ F } v w' := by
  refine done_fz (ks := []) hh hd (fun y hy => (List.getElem?_eq_some_iff.1 (hfresh y hy)).1) (fun y hy => ⟨by simp, hF y hy⟩) hsize ho ht hu (fun b hb _ => hold b hb) hz (fun n _ hn => hg n hn) (fun y hy _ a ha => by rw [hfresh y hy] at ha; cases ha) (fun y hy _ a ha => by rw [hfresh y hy] at ha; cases ha)
    (fun b hq hq' hT vs hb i hi => ?_) (fun n hn => (hg n fun hm => ?_).1) (fun n a0 hm ha => ?_) (fun n a hm hfx => by rw [hf n a hm] at hfx; cases hfx) hr hv
  · rcases Nat.lt_or_ge b w.heap.size with h1 | h1
    · obtain ⟨m, hm, _⟩ := hT h1
      have hzz := hz b h1
      have := hh.thaw b (fun e => hq (by rw [hzz, e]; rfl)) (fun e => hq' (by rw [hzz, e]; rfl)) vs (hb.same (hold b h1).symm) i hi
      unfold World.frozen? at *
      simp only [hold b h1]; exact this
    · exact hnew b h1 vs hb i hi
  · obtain ⟨y, hy, rfl⟩ := List.mem_map.1 hm
    exact absurd (hp y hy) (by omega)
  · rcases hm with hm | hm
    · cases hm
    · obtain ⟨y, hy, rfl⟩ := List.mem_map.1 hm
      rw [hfresh y hy] at ha; cases ha

/-- ... none is frozen. -/
theorem done_fresh0 {pars : Nat} {G G' : Gh} {w w' : World} {h : List Ent} {S : List (Nat × Ent)} {x : TV} {v : Value} (hh : RelH G w h)
    (hd : (S.map (·.1)).Nodup) (hfresh : ∀ y ∈ S, h[y.1]? = some .gone) (hp : ∀ y ∈ S, pars ≤ y.1)
    (hsize : w.heap.size ≤ w'.heap.size) (ho : w'.os = w.os) (ht : w'.tape = w.tape) (hu : w'.output = w.output)
    (hold : ∀ b, b < w.heap.size → w'.heap[b]? = w.heap[b]?)
    (hz : ∀ b, b < w.heap.size → G'.zone b = G.zone b)
    (hg : ∀ n, (∀ y ∈ S, y.1 ≠ n) → G'.blk n = G.blk n ∧ G'.base n = G.base n ∧ G'.cap n = G.cap n)
    (hnew : ∀ b, w.heap.size ≤ b → ∀ vs, Blk w' b vs → ∀ i, i < vs.size → w'.frozen? ⟨b, i, none⟩ = false)
    (hf : ∀ n a, (n, Ent.arr a) ∈ S → a.fix = false)
    (hr : ∀ (_ : Trans [] (fun n => n ∈ ([] : List Nat) ∨ n ∈ S.map (·.1)) G w h G' w' (newHeap h { val := x, sets := S })) n e, (n, e) ∈ S → RelE G' w' (newHeap h { val := x, sets := S }) n e)
    (hv : ∀ (_ : Trans [] (fun n => n ∈ ([] : List Nat) ∨ n ∈ S.map (·.1)) G w h G' w' (newHeap h { val := x, sets := S })), RelTV G' w' (newHeap h { val := x, sets := S }) v x) : Done pars G w h { val := x, sets := S } v w' := by
  have := done_fresh (S := S) (F := []) (x := x) (v := v) (pars := pars) hh (by rw [List.append_nil]; exact hd) hfresh hp (fun y hy => by cases hy) hsize ho ht hu hold (fun b hb => by rw [hz b hb]; exact (Zone.drop_nil _).symm)
    (fun n hn => hg n fun y hy e => hn (by rw [← e]; exact List.mem_map_of_mem (f := (·.1)) hy)) hnew hf (by rw [List.append_nil]; exact hr) (by rw [List.append_nil]; exact hv)
  rwa [List.append_nil] at this

end Go.Sx

/- What one operation does: values alone. -/
set_option linter.unusedVariables false
set_option linter.unusedSimpArgs false
namespace Go.Sx

/-- An operation goes through, and does what the interpreter says. -/
def OpOk (P : Program) (pars : Nat) (G : Gh) (w : World) (h : List Ent) (ev : Operand → Value) (o : Oper) (δ : Delta) : Prop :=
  ∃ v w', ((execOp ev o).run P w = .ok (.value v) w' ∨ ((execOp ev o).run P w = .ok .skip w' ∧ v = undef)) ∧ Done pars G w h δ v w'

section
variable {P : Program} {pars : Nat} {G : Gh} {w : World} {h : List Ent} {ev : Operand → Value} {o : Oper}

theorem ok_val (hh : RelH G w h) {x : TV} {v : Value} (hr : (execOp ev o).run P w = .ok (.value v) w) (hv : RelTV G w h v x) : OpOk P pars G w h ev o { val := x } :=
  ⟨v, w, .inl hr, done_val hh rfl rfl rfl rfl hv⟩

theorem ok_drew (hh : RelH G w h) {x : TV} {v : Value} {n : Nat} (hr : (execOp ev o).run P w = .ok (.value v) { w with drawn := n }) (hv : RelTV G w h v x) : OpOk P pars G w h ev o { val := x } :=
  ⟨v, _, .inl hr, done_val hh rfl rfl rfl rfl hv⟩

theorem bv_int {v : Value} {k : IntKind} {n : Int} (hr : RelTV G w h v (.c (.v (.int k n)))) : v = .int k n := hr
theorem bv_bool {v : Value} {b : Bool} (hr : RelTV G w h v (.c (.v (.bool b)))) : v = .bool b := hr
theorem bv_str {v : Value} {s : ByteArray} (hr : RelTV G w h v (.c (.v (.str s)))) : v = .string s := hr

theorem run_underlying' {t : TypeId} {d : TypeDesc} (h : P.underlying t = some d) (w : World) : (underlying t).run P w = .ok d w := run_underlying h w

theorem info_of_underlying {t : TypeId} {d : TypeDesc} (h : P.underlying t = some d) : ∃ i, P.info? t = some i := by
  cases hi : P.info? t with
  | some i => exact ⟨i, rfl⟩
  | none => simp [Program.underlying, hi] at h

theorem run_typeInfo' {t : TypeId} {i : TypeInfo} (h : P.info? t = some i) (w : World) : (typeInfo t).run P w = .ok i w := by
  simp [typeInfo, h]

theorem run_sizeOf' {t : TypeId} {i : TypeInfo} (h : P.info? t = some i) (w : World) : (sizeOf t).run P w = .ok i.size w := by
  simp [sizeOf, run_typeInfo' h]

theorem info_of_cells {t : TypeId} (h : P.cellsOf t ≠ 0) : ∃ i, P.info? t = some i ∧ i.size = P.cellsOf t := by
  unfold Program.cellsOf at *
  cases hi : P.info? t with
  | none => simp [hi] at h
  | some i => exact ⟨i, rfl, by simp⟩

theorem op_move {x : Operand} {t : TV} (ho : o.op = .move x ∨ o.op = .assign x) (hh : RelH G w h) (hv : RelTV G w h (ev x) t) : OpOk P pars G w h ev o { val := t } := by
  refine ok_val hh (v := ev x) ?_ hv
  rcases ho with ho | ho <;> simp [execOp, ho, Pure.pure, Sem.run]

theorem op_pick {c a b : Operand} (ho : o.op = .pick c a b) (hh : RelH G w h) {r : Bool} (hc : ev c = .bool r) {x : Bool} (hv : (if r then ev a else ev b) = .bool x) : OpOk P pars G w h ev o { val := .c (.v (.bool x)) } := by
  refine ok_val hh (v := .bool x) ?_ rfl
  simp [execOp, ho, hc, asBool, Pure.pure, Sem.run, Bind.bind, Sem.bind]
  cases r <;> simpa using hv

theorem op_nilCheck {x : Operand} {p : Addr} (ho : o.op = .nilCheck x) (hh : RelH G w h) (he : ev x = .pointer (some p)) {t : TV} (hv : RelTV G w h (ev x) t) : OpOk P pars G w h ev o { val := t } := by
  refine ok_val hh (v := ev x) ?_ hv
  simp [execOp, ho, he, Pure.pure, Sem.run]

theorem op_not {x : Operand} {t : TypeId} {b : Bool} (ho : o.op = .unOp .not t x) (hh : RelH G w h) (he : ev x = .bool b) : OpOk P pars G w h ev o { val := .c (.v (.bool (!b))) } := by
  refine ok_val hh (v := .bool (!b)) ?_ rfl
  simp [execOp, ho, he, Op.unary, Pure.pure, Sem.run, Bind.bind, Sem.bind]

theorem op_extract {x : Operand} {i : Nat} {xs : List CV} {c : CV} (ho : o.op = .extract x i) (hh : RelH G w h) (he : RelTV G w h (ev x) (.tup xs)) (hc : xs[i]? = some c) : OpOk P pars G w h ev o { val := .c c } := by
  obtain ⟨vs, hv, hs, hx⟩ := he
  obtain ⟨u, h1, h2⟩ := hx i c hc
  refine ok_val hh (v := u) ?_ h2
  simp [execOp, ho, hv, Instr.extract, h1, Pure.pure, Sem.run, Bind.bind, Sem.bind]

theorem op_makeFunc {f : FuncId} {caps : Array Operand} {l : List CapV} (ho : o.op = .makeFunc (.func f) #[] caps) (hh : RelH G w h) (hs : caps.size = l.length)
    (hc : ∀ (i : Nat) (c : CapV), l[i]? = some c → ∃ x, caps[i]? = some x ∧ RelCap G h (ev x) c) : OpOk P pars G w h ev o { val := .c (.v (.fn f l)) } := by
  refine ok_val hh (v := .func (.func f) #[] (caps.map ev)) ?_ ⟨caps.map ev, rfl, by simpa using hs, fun i c hi => ?_⟩
  · simp [execOp, ho, Instr.makeFunc, Pure.pure, Sem.run, Bind.bind, Sem.bind]
  · obtain ⟨x, h1, h2⟩ := hc i c hi
    exact ⟨ev x, by simp [h1], h2⟩

/-! arithmetic -/
theorem eqGuard_plain (P : Program) (op : BinOp) (t : TypeId) (x y : Operand) (a b : Value) (w : World) (ha : a ≠ .nilIface) (hb : ∀ cs, a ≠ .agg cs) : (eqGuard op t x y a b).run P w = .ok () w := by
  unfold eqGuard
  cases op <;> first
    | rfl
    | (cases a <;> cases b <;> first | rfl | (exact absurd rfl ha) | (exact absurd rfl (hb _)))

theorem bitOp_run {op : BinOp} {k : IntKind} {a b : Int} (hop : op = .and ∨ op = .or ∨ op = .xor) : (Op.intBits op k a b).run P w = .ok (.int k (bitOp op k a b)) w := by
  rcases hop with rfl | rfl | rfl <;> rfl

theorem op_bin_int {op : BinOp} {t u : TypeId} {x y : Operand} {k j : IntKind} {a b : Int} {g : Bool} {δ : Delta} (ho : o.op = .binOp op t x y u) (hh : RelH G w h)
    (hx : ev x = .int k a) (hy : ev y = .int j b) (hs : binD P op t (.c (.v (.int k a))) (.c (.v (.int j b))) = some (g, δ)) (hg : g = true) : OpOk P pars G w h ev o δ := by
  have hgd : ∀ w, (eqGuard op t x y (.int k a) (.int j b)).run P w = .ok () w := fun w => eqGuard_plain P op t x y _ _ w (by simp) (by simp)
  have key : ∀ r, (binOp op t (.int k a) (.int j b)).run P w = .ok (.int k r) w → OpOk P pars G w h ev o { val := .c (.v (.int k r)) } := by
    intro r hr
    refine ok_val hh (v := .int k r) ?_ rfl
    simp [execOp, ho, hx, hy, hgd, hr]
  have keyB : ∀ r, (binOp op t (.int k a) (.int j b)).run P w = .ok (.bool r) w → OpOk P pars G w h ev o { val := .c (.v (.bool r)) } := by
    intro r hr
    refine ok_val hh (v := .bool r) ?_ rfl
    simp [execOp, ho, hx, hy, hgd, hr]
  subst hg
  by_cases hshl : op = .shl
  · subst hshl
    simp only [binD, okIf, Option.some.injEq, Prod.mk.injEq, decide_eq_true_eq] at hs
    obtain ⟨h0, rfl⟩ := hs
    refine key _ ?_
    have : ¬ b < 0 := by omega
    simp [binOp, Op.shift, this]
  by_cases hshr : op = .shr
  · subst hshr
    simp only [binD, okIf, Option.some.injEq, Prod.mk.injEq, decide_eq_true_eq] at hs
    obtain ⟨h0, rfl⟩ := hs
    refine key _ ?_
    have : ¬ b < 0 := by omega
    simp [binOp, Op.shift, this]
  by_cases hkj : k = j
  · subst hkj
    cases op <;> simp only [binD, okIf, okV, cmpI, if_true, Option.some.injEq, Prod.mk.injEq, true_and, Option.bind_some, reduceCtorEq, Option.bind_none, bne_iff_ne, ne_eq] at hs <;> first
      | (subst hs; refine key _ ?_; simp [binOp, Op.intArith]; done)
      | (subst hs; refine key _ ?_; simp only [binOp, ne_eq, not_true_eq_false, if_false]; exact bitOp_run (by simp))
      | (subst hs; refine keyB _ ?_; simp [binOp, Op.intCmp]; done)
      | (obtain ⟨h0, rfl⟩ := hs; refine key _ ?_; simp [binOp, Op.intDiv, h0]; done)
      | (exact absurd rfl hshl)
      | (exact absurd rfl hshr)
  · cases op <;> simp only [binD, hkj, if_false, reduceCtorEq] at hs <;> first | (exact absurd rfl hshl) | (exact absurd rfl hshr)

theorem strEq_list (a b : ByteArray) : (a.toList == b.toList) = strEq a b := by
  unfold strEq
  rw [Bool.eq_iff_iff]
  rw [beq_iff_eq, decide_eq_true_eq, Lib.toList_data, Lib.toList_data]
  constructor
  · intro hq
    obtain ⟨⟨x⟩⟩ := a
    obtain ⟨⟨y⟩⟩ := b
    have : x = y := hq
    rw [this]
  · intro hq; rw [hq]

theorem strLt_list (a b : ByteArray) : Op.bytesLess a.toList b.toList = strLt a b := by
  unfold strLt; rw [Lib.toList_data, Lib.toList_data]

theorem op_bin_str {op : BinOp} {t u : TypeId} {x y : Operand} {a b : ByteArray} {g : Bool} {δ : Delta} (ho : o.op = .binOp op t x y u) (hh : RelH G w h)
    (hx : ev x = .string a) (hy : ev y = .string b) (hs : binD P op t (.c (.v (.str a))) (.c (.v (.str b))) = some (g, δ)) (hg : g = true) : OpOk P pars G w h ev o δ := by
  have hgd : ∀ w, (eqGuard op t x y (.string a) (.string b)).run P w = .ok () w := fun w => eqGuard_plain P op t x y _ _ w (by simp) (by simp)
  have keyS : ∀ r, (binOp op t (.string a) (.string b)).run P w = .ok (.string r) w → OpOk P pars G w h ev o { val := .c (.v (.str r)) } := by
    intro r hr
    refine ok_val hh (v := .string r) ?_ rfl
    simp [execOp, ho, hx, hy, hgd, hr]
  have keyB : ∀ r, (binOp op t (.string a) (.string b)).run P w = .ok (.bool r) w → OpOk P pars G w h ev o { val := .c (.v (.bool r)) } := by
    intro r hr
    refine ok_val hh (v := .bool r) ?_ rfl
    simp [execOp, ho, hx, hy, hgd, hr]
  subst hg
  cases op <;> simp only [binD, okIf, okV, Option.some.injEq, Prod.mk.injEq, true_and, reduceCtorEq, decide_eq_true_eq] at hs
  case add =>
    obtain ⟨h0, rfl⟩ := hs
    refine keyS _ ?_
    have : ¬ ((a.size + b.size : Nat) : Int) > IntKind.i64.max := by
      have : IntKind.i64.max = 9223372036854775807 := by decide
      simp only [most] at h0
      omega
    simp only [binOp, Op.stringOp]
    rw [if_neg this]
    rfl
  case eql => subst hs; refine keyB _ ?_; simp [binOp, Op.stringOp, strEq_list]
  case neq => subst hs; refine keyB _ ?_; simp [binOp, Op.stringOp, strEq_list]
  case lss => subst hs; refine keyB _ ?_; simp [binOp, Op.stringOp, strLt_list]
  case geq => subst hs; refine keyB _ ?_; simp [binOp, Op.stringOp, strLt_list]

theorem op_bin_bool {op : BinOp} {t u : TypeId} {x y : Operand} {a b : Bool} {g : Bool} {δ : Delta} (ho : o.op = .binOp op t x y u) (hh : RelH G w h)
    (hx : ev x = .bool a) (hy : ev y = .bool b) (hs : binD P op t (.c (.v (.bool a))) (.c (.v (.bool b))) = some (g, δ)) : OpOk P pars G w h ev o δ := by
  have hgd : ∀ w, (eqGuard op t x y (.bool a) (.bool b)).run P w = .ok () w := fun w => eqGuard_plain P op t x y _ _ w (by simp) (by simp)
  have keyB : ∀ r, (binOp op t (.bool a) (.bool b)).run P w = .ok (.bool r) w → OpOk P pars G w h ev o { val := .c (.v (.bool r)) } := by
    intro r hr
    refine ok_val hh (v := .bool r) ?_ rfl
    simp [execOp, ho, hx, hy, hgd, hr]
  simp only [binD] at hs
  split at hs
  · rename_i hu
    simp only [okV, Option.some.injEq, Prod.mk.injEq] at hs
    obtain ⟨_, rfl⟩ := hs
    refine keyB _ ?_
    have := run_equalIn_bool' (P := P) w 9999 t a b hu
    show ((do pure (.bool (← Op.equal t (.bool a) (.bool b)))) : Sem Value).run P w = _
    simp only [Op.equal, Op.maxDepth, Sem.run_bind, this, Result.andThen_ok, Sem.run_pure]
  · rename_i hu
    simp only [okV, Option.some.injEq, Prod.mk.injEq] at hs
    obtain ⟨_, rfl⟩ := hs
    refine keyB _ ?_
    have := run_equalIn_bool' (P := P) w 9999 t a b hu
    show ((do pure (.bool (!(← Op.equal t (.bool a) (.bool b))))) : Sem Value).run P w = _
    simp only [Op.equal, Op.maxDepth, Sem.run_bind, this, Result.andThen_ok, Sem.run_pure]
  · cases hs

def aggDesc : TypeDesc → Bool | .struct _ | .array _ _ => true | _ => false

theorem run_part_cell {t : TypeId} {d : TypeDesc} {vs : Array Value} {off : Nat} {v : Value} (hu : P.underlying t = some d) (hd : aggDesc d = false) (hv : vs[off]? = some v) :
    (part t vs off).run P w = .ok v w := by
  have : (isAgg t).run P w = .ok false w := by
    simp only [isAgg, Sem.run_bind, run_underlying hu, Result.andThen_ok]
    cases d <;> first | rfl | cases hd
  simp [part, this, hv]

theorem eqFields_run {xs ys : Array Value} {cs ds : List BV} (hx : ∀ (i : Nat) (b : BV), cs[i]? = some b → ∃ u, xs[i]? = some u ∧ u.oneCell' = true ∧ RelB G w h u b)
    (hy : ∀ (i : Nat) (b : BV), ds[i]? = some b → ∃ u, ys[i]? = some u ∧ u.oneCell' = true ∧ RelB G w h u b) :
    ∀ (fs : List Field) (r : Bool), eqFieldsD P cs ds fs = some r → (Op.eqFields 9999 xs ys fs).run P w = .ok r w
  | [], r, hr => by
    simp only [eqFieldsD, Option.some.injEq] at hr
    subst hr; rfl
  | f :: fs, r, hr => by
    simp only [eqFieldsD] at hr
    cases hn : (f.name == "_") with
    | true => rw [hn] at hr; simp at hr
    | false =>
      rw [hn] at hr
      simp only [cond_false] at hr
      have hne : f.name ≠ "_" := by simpa using hn
      simp only [Op.eqFields, if_pos hne]
      have tail : ∀ (u v : Value) (q : Bool) (d : TypeDesc), P.underlying f.type = some d → aggDesc d = false → xs[f.offset]? = some u → ys[f.offset]? = some v →
          (Op.equalIn 9999 f.type u v).run P w = .ok q w → (eqFieldsD P cs ds fs).map (fun r => q && r) = some r →
          ((do let a ← part f.type xs f.offset; let b ← part f.type ys f.offset; let r ← Op.equalIn 9999 f.type a b; if (!r) = true then pure false else Op.eqFields 9999 xs ys fs : Sem Bool)).run P w = .ok r w := by
        intro u v q d hu hd h1 h2 h3 h4
        simp only [Sem.run_bind, run_part_cell (w := w) hu hd h1, run_part_cell (w := w) hu hd h2, Result.andThen_ok, h3]
        cases hq : eqFieldsD P cs ds fs with
        | none => rw [hq] at h4; cases h4
        | some r' =>
          rw [hq] at h4
          simp only [Option.map_some, Option.some.injEq] at h4
          subst h4
          cases q with
          | false => rfl
          | true => simpa using eqFields_run hx hy fs r' hq
      split at hr
      · rename_i k a j b hu h1 h2
        split at hr
        · rename_i hkj
          subst hkj
          obtain ⟨u, p1, _, p2⟩ := hx _ _ h1
          obtain ⟨v, q1, _, q2⟩ := hy _ _ h2
          have p2' : u = .int k a := p2
          have q2' : v = .int k b := q2
          subst p2'; subst q2'
          exact tail _ _ _ _ hu rfl p1 q1 (run_equalIn_int w 9998 _ _ _ _ _ hu) hr
        · cases hr
      · rename_i a b hu h1 h2
        obtain ⟨u, p1, _, p2⟩ := hx _ _ h1
        obtain ⟨v, q1, _, q2⟩ := hy _ _ h2
        have p2' : u = .bool a := p2
        have q2' : v = .bool b := q2
        subst p2'; subst q2'
        exact tail _ _ _ _ hu rfl p1 q1 (run_equalIn_bool w 9998 _ _ _ hu) hr
      · rename_i a b hu h1 h2
        obtain ⟨u, p1, _, p2⟩ := hx _ _ h1
        obtain ⟨v, q1, _, q2⟩ := hy _ _ h2
        have p2' : u = .string a := p2
        have q2' : v = .string b := q2
        subst p2'; subst q2'
        exact tail _ _ _ _ hu rfl p1 q1 (by rw [run_equalIn_string w 9998 _ _ _ hu, strEq_list]) hr
      · cases hr

theorem op_bin_agg {op : BinOp} {t u : TypeId} {x y : Operand} {cs ds : List BV} {g : Bool} {δ : Delta} (ho : o.op = .binOp op t x y u) (hh : RelH G w h)
    (hx : RelTV G w h (ev x) (.c (.agg cs))) (hy : RelTV G w h (ev y) (.c (.agg ds))) (hs : binD P op t (.c (.agg cs)) (.c (.agg ds)) = some (g, δ)) : OpOk P pars G w h ev o δ := by
  obtain ⟨xs, ex, _, rx⟩ := hx
  obtain ⟨ys, ey, _, ry⟩ := hy
  have key : ∀ r, eqAggD P t cs ds = some r → (∀ op w, (eqGuard op t x y (.agg xs) (.agg ys)).run P w = .ok () w) ∧ (Op.equalIn 10000 t (.agg xs) (.agg ys)).run P w = .ok r w := by
    intro r hr
    unfold eqAggD at hr
    cases hq : (P.stoodInHeld t || P.eqGuardType P.depth t) with
    | true => rw [hq] at hr; cases hr
    | false =>
      rw [hq] at hr
      simp only [cond_false] at hr
      simp only [Bool.or_eq_false_iff] at hq
      cases hu : P.underlying t with
      | none => rw [hu] at hr; cases hr
      | some d =>
        rw [hu] at hr
        cases d <;> simp only [reduceCtorEq] at hr
        rename_i fs
        have hf : P.fieldsOf t = fs := by simp [Program.fieldsOf, hu]
        refine ⟨fun op w => run_eqGuard_agg w op t x y xs ys hq.2, ?_⟩
        rw [run_equalIn_struct w 9999 t xs ys (by rw [hf]; exact hu) hq.1, hf]
        exact eqFields_run rx ry _ _ hr
  have fin : ∀ r, (binOp op t (.agg xs) (.agg ys)).run P w = .ok (.bool r) w → (∀ op w, (eqGuard op t x y (.agg xs) (.agg ys)).run P w = .ok () w) → OpOk P pars G w h ev o { val := .c (.v (.bool r)) } := by
    intro r hr hgd
    refine ok_val hh (v := .bool r) ?_ rfl
    simp [execOp, ho, ex, ey, hgd, hr]
  cases op <;> simp only [binD, reduceCtorEq] at hs
  case eql =>
    cases hq : eqAggD P t cs ds with
    | none => rw [hq] at hs; cases hs
    | some r =>
      rw [hq] at hs
      simp only [Option.bind_some, okV, Option.some.injEq, Prod.mk.injEq] at hs
      obtain ⟨_, rfl⟩ := hs
      obtain ⟨k1, k2⟩ := key r hq
      exact fin r (by rw [run_eql_struct, k2]; rfl) k1
  case neq =>
    cases hq : eqAggD P t cs ds with
    | none => rw [hq] at hs; cases hs
    | some r =>
      rw [hq] at hs
      simp only [Option.bind_some, okV, Option.some.injEq, Prod.mk.injEq] at hs
      obtain ⟨_, rfl⟩ := hs
      obtain ⟨k1, k2⟩ := key r hq
      exact fin (!r) (by rw [run_neq_struct, k2]; rfl) k1

end
end Go.Sx

/- What one operation does: reading memory. -/
set_option linter.unusedVariables false
set_option linter.unusedSimpArgs false
namespace Go.Sx
section
variable {P : Program} {pars : Nat} {G : Gh} {w : World} {h : List Ent} {ev : Operand → Value} {o : Oper}

/-- Memory cells that are what a list of values says. -/
def Cells (G : Gh) (w : World) (h : List Ent) (vs : Array Value) (o : Nat) (cs : List BV) : Prop :=
  ∀ (i : Nat) (b : BV), cs[i]? = some b → ∃ u, vs[o + i]? = some u ∧ u.oneCell' = true ∧ RelB G w h u b

theorem relB_mk : (t : Ty) → {v : Value} → {x : t.den} → RelCell w (fun b => G.zone b = .frz) t v x → v.oneCell' = true ∧ RelB G w h v (mkBV t x)
  | .int k, v, x, hr => by simp only [RelCell] at hr; subst hr; exact ⟨rfl, rfl⟩
  | .bool, v, x, hr => by simp only [RelCell] at hr; subst hr; exact ⟨rfl, rfl⟩
  | .str, v, x, hr => by simp only [RelCell] at hr; subst hr; exact ⟨rfl, rfl⟩
  | .sl r, v, x, hr => by
    refine ⟨?_, hr⟩
    obtain ⟨_, _, rfl, _⟩ := relCell_sl.1 hr
    rfl

theorem cells_row : (r : Row) → {vs : Array Value} → {o : Nat} → {x : r.den} → RelRow w (fun b => G.zone b = .frz) r vs o x → Cells G w h vs o (rowBV r x)
  | .one t, vs, o, x, hr => by
    simp only [RelRow] at hr
    obtain ⟨v, h1, h2⟩ := hr
    intro i b hi
    cases i with
    | zero =>
      simp only [rowBV, List.getElem?_cons_zero, Option.some.injEq] at hi
      subst hi
      exact ⟨v, h1, relB_mk t h2⟩
    | succ i => simp [rowBV] at hi
  | .cons t r, vs, o, x, hr => by
    simp only [RelRow] at hr
    obtain ⟨⟨v, h1, h2⟩, h3⟩ := hr
    intro i b hi
    cases i with
    | zero =>
      simp only [rowBV, List.getElem?_cons_zero, Option.some.injEq] at hi
      subst hi
      exact ⟨v, h1, relB_mk t h2⟩
    | succ i =>
      simp only [rowBV, List.getElem?_cons_succ] at hi
      obtain ⟨u, p1, p2⟩ := cells_row r h3 i b hi
      exact ⟨u, by rw [show o + (i + 1) = o + 1 + i by omega]; exact p1, p2⟩

theorem isAgg_run {t : TypeId} (hu : (P.underlying t).isSome = true) (w : World) : (isAgg t).run P w = .ok (isAggB P t) w := by
  cases hd : P.underlying t with
  | none => rw [hd] at hu; cases hu
  | some d =>
    simp only [isAgg, Sem.run_bind, run_underlying hd, Result.andThen_ok, isAggB, hd]
    cases d <;> rfl

theorem info_of_some {t : TypeId} (hu : (P.underlying t).isSome = true) : ∃ i, P.info? t = some i ∧ i.size = P.cellsOf t := by
  obtain ⟨d, hd⟩ := Option.isSome_iff_exists.1 hu
  obtain ⟨i, hi⟩ := info_of_underlying hd
  exact ⟨i, hi, by simp [Program.cellsOf, hi]⟩

theorem pick_ok {t : TypeId} {b oo off : Nat} {vs : Array Value} {cs : List BV} {g : Bool} {δ : Delta} (hb : Blk w b vs) (hc : Cells G w h vs oo cs)
    (hs : pickCells P t cs off = some (g, δ)) : ∃ v x, δ = { val := x } ∧ (loadVar t ⟨b, oo + off, none⟩).run P w = .ok v w ∧ RelTV G w h v x := by
  unfold pickCells at hs
  cases hu : (P.underlying t).isSome with
  | false => rw [hu] at hs; cases hs
  | true =>
    rw [hu] at hs
    simp only [Bool.not_true, cond_false] at hs
    obtain ⟨i, hi, hsz⟩ := info_of_some hu
    unfold loadVar
    simp only [Sem.run_bind, isAgg_run hu, Result.andThen_ok]
    cases ha : isAggB P t with
    | true =>
      rw [ha] at hs
      simp only [cond_true] at hs
      cases hl : Nat.ble (off + P.cellsOf t) cs.length with
      | false => rw [hl] at hs; cases hs
      | true =>
        rw [hl] at hs
        simp only [cond_true, Option.some.injEq, Prod.mk.injEq] at hs
        obtain ⟨_, rfl⟩ := hs
        have hle : off + P.cellsOf t ≤ cs.length := Nat.le_of_ble_eq_true hl
        have hget : ∀ j, j < P.cellsOf t → ∃ u, vs[oo + off + j]? = some u ∧ u.oneCell' = true ∧ ∃ b, cs[off + j]? = some b ∧ RelB G w h u b := by
          intro j hj
          have : off + j < cs.length := by omega
          obtain ⟨u, h1, h2, h3⟩ := hc (off + j) cs[off + j] (List.getElem?_eq_getElem this)
          exact ⟨u, by rw [show oo + off + j = oo + (off + j) by omega]; exact h1, h2, _, List.getElem?_eq_getElem this, h3⟩
        have hrun := run_loadCells (P := P) w ⟨b, oo + off, none⟩ (P.cellsOf t) (fun j => (vs[oo + off + j]?).getD undef) (fun j hj => by
          obtain ⟨u, h1, _⟩ := hget j hj
          rw [Addr.add_lit, hb.cell, h1]; rfl)
        refine ⟨.agg (List.map (fun j => (vs[oo + off + j]?).getD undef) (List.range (P.cellsOf t))).toArray, _, rfl, ?_, ?_⟩
        · simp only [if_true, Sem.run_bind, run_sizeOf' hi, Result.andThen_ok, hsz, hrun]
          rfl
        · refine ⟨_, rfl, by simp; omega, fun i b hi => ?_⟩
          rw [List.getElem?_take, List.getElem?_drop] at hi
          split at hi
          · rename_i hlt
            obtain ⟨u, h1, h2, b', h3, h4⟩ := hget i hlt
            rw [h3] at hi
            simp only [Option.some.injEq] at hi
            subst hi
            exact ⟨u, by simp [hlt, h1], h2, h4⟩
          · cases hi
    | false =>
      rw [ha] at hs
      simp only [cond_false] at hs
      cases hq : cs[off]? with
      | none => rw [hq] at hs; cases hs
      | some bb =>
        rw [hq] at hs
        simp only [okV, Option.some.injEq, Prod.mk.injEq] at hs
        obtain ⟨_, rfl⟩ := hs
        obtain ⟨u, h1, h2, h3⟩ := hc off bb hq
        refine ⟨u, _, rfl, ?_, h3⟩
        simp only [Bool.false_eq_true, if_false, run_load, hb.cell, h1]

theorem relArr_of {n : Nat} {a : Arr} (hh : RelH G w h) (ha : h[n]? = some (.arr a)) : RelArr G w n a := hh.ent n _ ha

/-- Where an element of a row lies. -/
theorem arr_elem {n : Nat} {a : Arr} (hr : RelArr G w n a) {i : Nat} (hi : i < a.rows.length) :
    ∃ ad vs, G.base n = some ad ∧ ad.spot = none ∧ ZArr G n a ad.block ∧ Blk w ad.block vs ∧ ad.off + G.cap n * a.row.size ≤ vs.size ∧ RelRow w (fun b => G.zone b = .frz) a.row vs (ad.off + i * a.row.size) (a.rows.getD i a.row.zero) := by
  obtain ⟨_, _, hl, hc⟩ := hr
  rcases hc with hc | ⟨ad, vs, h1, h2, h3, h4, h5, h6⟩
  · omega
  · exact ⟨ad, vs, h1, h2, h3, h4, h5, h6 i _ (by rw [List.getD_eq_getElem?_getD, List.getElem?_eq_getElem hi]; rfl)⟩

theorem addr_eta {a : Addr} (hs : a.spot = none) : a = ⟨a.block, a.off, none⟩ := by cases a; simp_all

theorem op_load {t : TypeId} {x : Operand} {q : Nat → Ent} {g : Bool} {δ : Delta} {xv : TV} (ho : o.op = .load t x) (hh : RelH G w h) (hq : ∀ n, q n ≠ .gone → h[n]? = some (q n))
    (hx : RelTV G w h (ev x) xv) (hs : loadD P t q xv = some (g, δ)) : OpOk P pars G w h ev o δ := by
  have fin : ∀ {b oo off : Nat} {vs : Array Value} {cs : List BV}, ev x = .pointer (some ⟨b, oo + off, none⟩) → Blk w b vs → Cells G w h vs oo cs → pickCells P t cs off = some (g, δ) → OpOk P pars G w h ev o δ := by
    intro b oo off vs cs he hb hc hp
    obtain ⟨v, y, rfl, hrun, hrel⟩ := pick_ok hb hc hp
    refine ok_val hh (v := v) ?_ hrel
    simp [execOp, ho, he, Instr.loadAt, Instr.sureAddr, hrun]
  unfold loadD at hs
  split at hs
  · rename_i n off
    cases hn : q n <;> rw [hn] at hs <;> simp only [reduceCtorEq] at hs
    rename_i cs
    have hbox := hq n (by rw [hn]; simp)
    rw [hn] at hbox
    obtain ⟨_, vs, hb, _, hc⟩ := hh.ent n _ hbox
    obtain ⟨cs', _, he⟩ := hx
    exact fin (by rw [he]) hb hc hs
  · rename_i n i j
    cases hn : q n <;> rw [hn] at hs <;> simp only [reduceCtorEq] at hs
    rename_i a
    have harr := hq n (by rw [hn]; simp)
    rw [hn] at harr
    cases hp : a.plain <;> rw [hp] at hs <;> simp only [cond_false, cond_true, reduceCtorEq] at hs
    obtain ⟨a', ad, ha', hi, hb0, he⟩ := hx
    rw [harr] at ha'
    injection ha' with ha'
    injection ha' with ha'
    subst ha'
    obtain ⟨ad', vs, hb1, hsp, _, hb, _, hrow⟩ := arr_elem (relArr_of hh harr) hi
    rw [hb0] at hb1
    injection hb1 with hb1
    subst hb1
    exact fin he hb (cells_row _ hrow) hs
  · rename_i r y j
    obtain ⟨b, oo, vs, he, _, hb, hrow⟩ := hx
    exact fin he hb (cells_row _ hrow) hs
  · cases hs

theorem field_run {s : TypeId} {f off : Nat} (hf : fieldOff P s f = some off) {a : Addr} (hs : a.spot = none) (w : World) :
    (Instr.fieldAt s (.pointer (some a)) f).run P w = .ok (.pointer (some ⟨a.block, a.off + off, none⟩)) w := by
  unfold fieldOff at hf
  cases hu : P.underlying s with
  | none => rw [hu] at hf; cases hf
  | some d =>
    rw [hu] at hf
    cases d <;> simp only [reduceCtorEq] at hf
    rename_i fs
    cases hx : fs[f]? with
    | none => rw [hx] at hf; cases hf
    | some x =>
      rw [hx] at hf
      cases hz : Nat.beq (P.cellsOf x.type) 0 with
      | true => simp [hz] at hf
      | false =>
        simp only [hz, cond_false, Option.some.injEq] at hf
        subst hf
        have hne : P.cellsOf x.type ≠ 0 := by intro e; rw [e] at hz; cases hz
        obtain ⟨i, hi, hsz⟩ := info_of_cells hne
        have hsz' : i.size ≠ 0 := by rw [hsz]; exact hne
        rw [addr_eta hs]
        simp [Instr.fieldAt, run_underlying hu, hx, Instr.sureAddr, fieldPlace, run_sizeOf' hi, hsz', Addr.add_lit]

theorem field_run2 {s : TypeId} {f off : Nat} (hf : fieldOff P s f = some off) (b oo : Nat) (w : World) :
    (Instr.fieldAt s (.pointer (some ⟨b, oo, none⟩)) f).run P w = .ok (.pointer (some ⟨b, oo + off, none⟩)) w := field_run hf (a := ⟨b, oo, none⟩) rfl w

theorem op_fieldAddr {s : TypeId} {x : Operand} {f : Nat} {g : Bool} {δ : Delta} {xv : TV} (ho : o.op = .fieldAddr s x f) (hh : RelH G w h)
    (hx : RelTV G w h (ev x) xv) (hs : fieldAddrD P s f xv = some (g, δ)) : OpOk P pars G w h ev o δ := by
  unfold fieldAddrD at hs
  split at hs
  · rename_i n off
    cases hf : fieldOff P s f with
    | none => rw [hf] at hs; cases hs
    | some d =>
      rw [hf] at hs
      simp only [Option.bind_some, okV, Option.some.injEq, Prod.mk.injEq] at hs
      obtain ⟨_, rfl⟩ := hs
      obtain ⟨cs, hc, he⟩ := hx
      refine ok_val hh (v := .pointer (some ⟨(G.blk n).1, (G.blk n).2 + off + d, none⟩)) ?_ ⟨cs, hc, by rw [Nat.add_assoc]⟩
      simp [execOp, ho, he, field_run2 hf]
  · rename_i n i j
    cases hf : fieldOff P s f with
    | none => rw [hf] at hs; cases hs
    | some d =>
      rw [hf] at hs
      simp only [Option.bind_some, okV, Option.some.injEq, Prod.mk.injEq] at hs
      obtain ⟨_, rfl⟩ := hs
      obtain ⟨a, ad, ha, hi, hb, he⟩ := hx
      refine ok_val hh (v := .pointer (some ⟨ad.block, ad.off + i * a.row.size + j + d, none⟩)) ?_ ⟨a, ad, ha, hi, hb, by rw [Nat.add_assoc]⟩
      simp [execOp, ho, he, field_run2 hf]
  · rename_i src r y j
    cases hf : fieldOff P s f with
    | none => rw [hf] at hs; cases hs
    | some d =>
      rw [hf] at hs
      simp only [Option.bind_some, okV, Option.some.injEq, Prod.mk.injEq] at hs
      obtain ⟨_, rfl⟩ := hs
      cases src with
      | some _ => exact hx.elim
      | none =>
        obtain ⟨b, oo, vs, he, hz, hb, hr⟩ := hx
        refine ok_val hh (v := .pointer (some ⟨b, oo + j + d, none⟩)) ?_ ⟨b, oo, vs, by rw [Nat.add_assoc], hz, hb, hr⟩
        simp [execOp, ho, he, field_run2 hf]
  · cases hs

theorem within_iff {i : Int} {n : Nat} : within i n = true ↔ 0 ≤ i ∧ i < n := by simp [within]

theorem elemOf_some {t e : TypeId} (he : elemOfB P t = some e) : P.underlying t = some (.slice e) := by
  unfold elemOfB at he
  cases hu : P.underlying t with
  | none => rw [hu] at he; cases he
  | some d => rw [hu] at he; cases d <;> simp only [reduceCtorEq, Option.some.injEq] at he; rw [he]

theorem index_run {t e : TypeId} {ad : Addr} {len cap st : Nat} {k : IntKind} {i : Int} (he : elemOfB P t = some e) (hst : st = P.cellsOf e) (hpos : 0 < st) (hs : ad.spot = none) (h0 : 0 ≤ i) (h1 : i < len) (w : World) :
    (Instr.indexAt t (.slice (some ad) len cap) (.int k i)).run P w = .ok (.pointer (some ⟨ad.block, ad.off + i.toNat * st, none⟩)) w := by
  obtain ⟨inf, hi, hsz⟩ := info_of_cells (P := P) (t := e) (by omega)
  have hu := elemOf_some he
  rw [addr_eta hs]
  simp [Instr.indexAt, asIntOf, run_underlying hu, h0, h1, run_sizeOf' hi, hsz, ← hst, Addr.add_lit]

theorem op_indexAddr {t : TypeId} {x y : Operand} {q : Nat → Ent} {g : Bool} {δ : Delta} {xv yv : TV} (ho : o.op = .indexAddr t x y) (hh : RelH G w h) (hq : ∀ n, q n ≠ .gone → h[n]? = some (q n))
    (hx : RelTV G w h (ev x) xv) (hy : RelTV G w h (ev y) yv) (hs : indexAddrD P t q xv yv = some (g, δ)) (hg : g = true) : OpOk P pars G w h ev o δ := by
  subst hg
  unfold indexAddrD at hs
  split at hs
  · rename_i b k i
    have hy' : ev y = .int k i := hy
    cases he : elemOfB P t with
    | none => rw [he] at hs; cases hs
    | some e =>
      rw [he] at hs
      simp only at hs
      split at hs
      · rename_i n
        cases hn : q n <;> rw [hn] at hs <;> simp only [reduceCtorEq] at hs
        rename_i a
        have harr := hq n (by rw [hn]; simp)
        rw [hn] at harr
        cases hz : Nat.beq a.row.size (P.cellsOf e) <;> rw [hz] at hs <;> simp only [cond_false, cond_true, reduceCtorEq, okIf, Option.some.injEq, Prod.mk.injEq] at hs
        obtain ⟨hw, rfl⟩ := hs
        obtain ⟨h0, h1⟩ := within_iff.1 hw
        have hsz : a.row.size = P.cellsOf e := Nat.eq_of_beq_eq_true hz
        obtain ⟨a', ha', hv⟩ := hx
        rw [harr] at ha'
        injection ha' with ha'
        injection ha' with ha'
        subst ha'
        obtain ⟨ad, vs, hb1, hsp, _, hb, _, _⟩ := arr_elem (relArr_of hh harr) (i := i.toNat) (by omega)
        rw [hb1] at hv
        refine ok_val hh (v := .pointer (some ⟨ad.block, ad.off + i.toNat * a.row.size, none⟩)) ?_ ⟨a, ad, harr, by omega, hb1, by rw [Nat.add_zero]⟩
        simp [execOp, ho, hv, hy', index_run he hsz a.row.size_pos hsp h0 h1]
      · rename_i n lo len
        cases hn : q n <;> rw [hn] at hs <;> simp only [reduceCtorEq] at hs
        rename_i a
        have harr := hq n (by rw [hn]; simp)
        rw [hn] at harr
        cases hz : Nat.beq a.row.size (P.cellsOf e) <;> rw [hz] at hs <;> simp only [cond_false, cond_true, reduceCtorEq, okIf, Option.some.injEq, Prod.mk.injEq] at hs
        obtain ⟨hw, rfl⟩ := hs
        obtain ⟨h0, h1⟩ := within_iff.1 hw
        have hsz : a.row.size = P.cellsOf e := Nat.eq_of_beq_eq_true hz
        obtain ⟨a', bb, ha', hl, hv, hbb⟩ := hx
        rw [harr] at ha'
        injection ha' with ha'
        injection ha' with ha'
        subst ha'
        obtain ⟨ad, vs, hb1, hsp, _, hb, _, _⟩ := arr_elem (relArr_of hh harr) (i := lo + i.toNat) (by omega)
        have hcap : a.rows.length ≤ G.cap n := (relArr_of hh harr).2.2.1
        rw [hb1] at hbb
        have hbb' : bb = some ⟨ad.block, ad.off + lo * a.row.size, none⟩ := by
          rw [hbb (by omega)]
          simp only [Option.map_some]
          rw [addr_eta hsp, Addr.add_lit]
        rw [hbb'] at hv
        refine ok_val hh (v := .pointer (some ⟨ad.block, ad.off + lo * a.row.size + i.toNat * a.row.size, none⟩)) ?_ ⟨a, ad, harr, by omega, hb1, by rw [Nat.add_zero, Nat.add_mul, Nat.add_assoc]⟩
        simp [execOp, ho, hv, hy', index_run (ad := ⟨ad.block, ad.off + lo * a.row.size, none⟩) he hsz a.row.size_pos rfl h0 h1]
      · rename_i ho' r xs
        cases hz : Nat.beq r.size (P.cellsOf e) <;> rw [hz] at hs <;> simp only [cond_false, cond_true, reduceCtorEq, okIf, Option.some.injEq, Prod.mk.injEq] at hs
        obtain ⟨hw, rfl⟩ := hs
        obtain ⟨h0, h1⟩ := within_iff.1 hw
        have hsz : r.size = P.cellsOf e := Nat.eq_of_beq_eq_true hz
        have hx' : RelCell w (fun b => G.zone b = .frz) (.sl r) (ev x) xs := hx
        obtain ⟨base, cap, hv, hl, hc⟩ := relCell_sl.1 hx'
        rcases hc with hc | ⟨ad, vs, hb1, hsp, hzn, hb, _, hr⟩
        · omega
        · rw [hb1] at hv
          refine ok_val hh (v := .pointer (some ⟨ad.block, ad.off + i.toNat * r.size, none⟩)) ?_ ⟨ad.block, ad.off + i.toNat * r.size, vs, by rw [Nat.add_zero], hzn, hb, hr i.toNat _ ?_⟩
          · simp [execOp, ho, hv, hy', index_run he hsz r.size_pos hsp h0 h1]
          · have : i.toNat < xs.length := by omega
            rw [List.getD_eq_getElem?_getD, List.getElem?_eq_getElem this]; rfl
      · cases hs
  · cases hs

theorem op_min {xs : Array Operand} {at_ : Array TypeId} {b : BV} {mx : Bool} (ho : o.op = .call { callee := .builtin (if mx then .max else .min), args := xs, argTypes := at_ }) (hh : RelH G w h) {vs : List TV}
    (hl : xs.size = vs.length) (hx : ∀ (i : Nat) (v : TV), vs[i]? = some v → ∃ x, xs[i]? = some x ∧ RelTV G w h (ev x) v) (hs : minMaxD mx vs = some b) : OpOk P pars G w h ev o { val := .c (.v b) } := by
  unfold minMaxD at hs
  split at hs
  · rename_i k a j c
    split at hs
    · rename_i hkj
      subst hkj
      simp only [Option.some.injEq] at hs
      subst hs
      obtain ⟨x0, p0, q0⟩ := hx 0 _ rfl
      obtain ⟨x1, p1, q1⟩ := hx 1 _ rfl
      have q0' : ev x0 = .int k a := q0
      have q1' : ev x1 = .int k c := q1
      have hxs : xs = #[x0, x1] := by
        apply Array.ext
        · simpa using hl
        · intro i h1 h2
          match i, h1, h2 with
          | 0, h1, h2 => simpa [Array.getElem?_eq_getElem h1] using p0
          | 1, h1, h2 => simpa [Array.getElem?_eq_getElem h1] using p1
      subst hxs
      cases mx with
      | true =>
        refine ok_val hh (v := .int k (if c > a then c else a)) ?_ rfl
        simp [execOp, ho, resolve, invoke, builtin, Builtin.max_, Builtin.max2, q0', q1', List.foldlM]
      | false =>
        refine ok_val hh (v := .int k (if c < a then c else a)) ?_ rfl
        simp [execOp, ho, resolve, invoke, builtin, Builtin.min_, Builtin.min2, q0', q1', List.foldlM]
    · cases hs
  · cases hs

theorem op_len {x : Operand} {at_ : Array TypeId} {t : TypeId} {n : Nat} {q : Nat → Ent} {xv : TV} (ho : o.op = .call { callee := .builtin .len, args := #[x], argTypes := at_ }) (hat : at_[0]? = some t) (hh : RelH G w h)
    (hq : ∀ n, q n ≠ .gone → h[n]? = some (q n)) (hx : RelTV G w h (ev x) xv) (hs : lenD P t xv q = some n) : OpOk P pars G w h ev o { val := .c (.v (.int .i64 n)) } := by
  refine ok_val hh (v := .int .i64 n) ?_ rfl
  unfold lenD at hs
  split at hs
  · split at hs
    · rename_i hu
      simp only [Option.some.injEq] at hs
      subst hs
      have hx' : ev x = .string _ := hx
      simp [execOp, ho, resolve, invoke, builtin, Builtin.len_, hx', hat, run_underlying hu, goInt]
    · rename_i m hu
      cases hn : q m <;> rw [hn] at hs <;> simp only [reduceCtorEq, Option.some.injEq] at hs
      rename_i a
      have harr := hq m (by rw [hn]; simp)
      rw [hn] at harr
      obtain ⟨a', ha', hv⟩ := hx
      rw [harr] at ha'
      injection ha' with ha'
      injection ha' with ha'
      subst ha'
      subst hs
      simp [execOp, ho, resolve, invoke, builtin, Builtin.len_, hv, hat, run_underlying hu, goInt]
    · rename_i hu
      simp only [Option.some.injEq] at hs
      subst hs
      obtain ⟨a', _, _, _, hv, _⟩ := hx
      simp [execOp, ho, resolve, invoke, builtin, Builtin.len_, hv, hat, run_underlying hu, goInt]
    · rename_i hu
      simp only [Option.some.injEq] at hs
      subst hs
      obtain ⟨base, cap, hv, _⟩ := relCell_sl.1 (show RelCell w (fun b => G.zone b = .frz) (.sl _) (ev x) _ from hx)
      simp [execOp, ho, resolve, invoke, builtin, Builtin.len_, hv, hat, run_underlying hu, goInt]
    · rename_i hu
      simp only [Option.some.injEq] at hs
      subst hs
      obtain ⟨base, hv⟩ := hx
      simp [execOp, ho, resolve, invoke, builtin, Builtin.len_, hv, hat, run_underlying hu, goInt]
    · cases hs
  · cases hs
end
end Go.Sx

/- What one operation does: parts of what is there. -/
set_option linter.unusedVariables false
set_option linter.unusedSimpArgs false
namespace Go.Sx
section
variable {P : Program} {pars : Nat} {G : Gh} {w : World} {h : List Ent} {ev : Operand → Value} {o : Oper}

theorem bt_get {s : ByteArray} {i : Nat} (hi : i < s.size) : ∃ b, s[i]? = some b ∧ (b.toNat : Int) = bt s i := by
  refine ⟨s[i], getElem?_pos s i hi, ?_⟩
  unfold bt
  have : s.data.toList[i]? = some s[i] := by
    have hi' : i < s.data.toList.length := by rw [Array.length_toList]; exact hi
    rw [List.getElem?_eq_getElem hi']
    rfl
  rw [List.getD_eq_getElem?_getD, this]
  rfl

theorem cellsInt_get {k : IntKind} : ∀ {cs : List BV} {l : List Int}, cellsInt k cs = some l → cs.length = l.length ∧ ∀ (i : Nat) (n : Int), l[i]? = some n → cs[i]? = some (BV.int k n)
  | [], l, hs => by simp only [cellsInt, Option.some.injEq] at hs; subst hs; simp
  | b :: cs, l, hs => by
    cases b <;> simp only [cellsInt, reduceCtorEq] at hs
    rename_i j n
    by_cases hk : k = j
    · subst hk
      rw [if_pos rfl] at hs
      cases hq : cellsInt k cs with
      | none => rw [hq] at hs; cases hs
      | some l' =>
        rw [hq] at hs
        simp only [Option.map_some, Option.some.injEq] at hs
        subst hs
        obtain ⟨p1, p2⟩ := cellsInt_get hq
        refine ⟨by simp [p1], fun i m hi => ?_⟩
        cases i with
        | zero => simpa using hi
        | succ i => simpa using p2 i m (by simpa using hi)
    · rw [if_neg hk] at hs; cases hs

theorem cellsStr_get : ∀ {cs : List BV} {l : List ByteArray}, cellsStr cs = some l → cs.length = l.length ∧ ∀ (i : Nat) (n : ByteArray), l[i]? = some n → cs[i]? = some (BV.str n)
  | [], l, hs => by simp only [cellsStr, Option.some.injEq] at hs; subst hs; simp
  | b :: cs, l, hs => by
    cases b <;> simp only [cellsStr, reduceCtorEq] at hs
    rename_i n
    cases hq : cellsStr cs with
    | none => rw [hq] at hs; cases hs
    | some l' =>
      rw [hq] at hs
      simp only [Option.map_some, Option.some.injEq] at hs
      subst hs
      obtain ⟨p1, p2⟩ := cellsStr_get hq
      refine ⟨by simp [p1], fun i m hi => ?_⟩
      cases i with
      | zero => simpa using hi
      | succ i => simpa using p2 i m (by simpa using hi)

theorem index_array_run {t e : TypeId} {n : Nat} {d : TypeDesc} {vs : Array Value} {k : IntKind} {i : Int} {u : Value} (hu : P.underlying t = some (.array n e)) (hd : P.underlying e = some d) (hg : aggDesc d = false) (h1 : P.cellsOf e = 1)
    (h0 : 0 ≤ i) (hn : i < n) (hv : vs[i.toNat]? = some u) : (Instr.index t (.agg vs) (.int k i)).run P w = .ok u w := by
  obtain ⟨inf, hi, hsz⟩ := info_of_cells (P := P) (t := e) (by omega)
  have := run_part_cell (P := P) (w := w) hd hg hv
  simp [Instr.index, asIntOf, run_underlying hu, h0, hn, run_sizeOf' hi, hsz, h1, this]

theorem op_index {t : TypeId} {x y : Operand} {g : Bool} {δ : Delta} {xv yv : TV} (ho : o.op = .index t x y) (hh : RelH G w h)
    (hx : RelTV G w h (ev x) xv) (hy : RelTV G w h (ev y) yv) (hs : indexD P t xv yv = some (g, δ)) (hg : g = true) : OpOk P pars G w h ev o δ := by
  subst hg
  unfold indexD at hs
  split at hs
  · rename_i s k i
    have hx' : ev x = .string s := hx
    have hy' : ev y = .int k i := hy
    split at hs
    · rename_i hu
      simp only [okIf, Option.some.injEq, Prod.mk.injEq] at hs
      obtain ⟨hw, rfl⟩ := hs
      obtain ⟨h0, h1⟩ := within_iff.1 hw
      obtain ⟨b, hb, hbt⟩ := bt_get (s := s) (i := i.toNat) (by omega)
      refine ok_val hh (v := .int .u8 (bt s i.toNat)) ?_ rfl
      simp [execOp, ho, hx', hy', Instr.index, asIntOf, run_underlying hu, h0, hb, hbt]
    · cases hs
  · rename_i cs k i
    have hy' : ev y = .int k i := hy
    obtain ⟨vs, hv, hsz, hc⟩ := hx
    split at hs
    · rename_i n e hu
      split at hs
      · rename_i kk hd
        cases hq : cellsInt kk cs with
        | none => rw [hq] at hs; cases hs
        | some l =>
          rw [hq] at hs
          cases hb : (Nat.beq n l.length && Nat.beq (P.cellsOf e) 1) <;> simp only [hb, cond_false, cond_true, reduceCtorEq, okIf, Option.some.injEq, Prod.mk.injEq] at hs
          obtain ⟨hw, rfl⟩ := hs
          obtain ⟨h0, h1⟩ := within_iff.1 hw
          simp only [Bool.and_eq_true] at hb
          have hn : n = l.length := Nat.eq_of_beq_eq_true hb.1
          have h1c : P.cellsOf e = 1 := Nat.eq_of_beq_eq_true hb.2
          have hlt : i.toNat < l.length := by omega
          obtain ⟨u, p1, _, p2⟩ := hc i.toNat _ ((cellsInt_get hq).2 i.toNat l[i.toNat] (List.getElem?_eq_getElem hlt))
          have p2' : u = .int kk l[i.toNat] := p2
          subst p2'
          refine ok_val hh (v := .int kk l[i.toNat]) ?_ (by rw [List.getD_eq_getElem?_getD, List.getElem?_eq_getElem hlt]; rfl)
          simp [execOp, ho, hv, hy', index_array_run hu hd rfl h1c h0 h1 p1]
      · rename_i hd
        cases hq : cellsStr cs with
        | none => rw [hq] at hs; cases hs
        | some l =>
          rw [hq] at hs
          cases hb : (Nat.beq n l.length && Nat.beq (P.cellsOf e) 1) <;> simp only [hb, cond_false, cond_true, reduceCtorEq, okIf, Option.some.injEq, Prod.mk.injEq] at hs
          obtain ⟨hw, rfl⟩ := hs
          obtain ⟨h0, h1⟩ := within_iff.1 hw
          simp only [Bool.and_eq_true] at hb
          have hn : n = l.length := Nat.eq_of_beq_eq_true hb.1
          have h1c : P.cellsOf e = 1 := Nat.eq_of_beq_eq_true hb.2
          have hlt : i.toNat < l.length := by omega
          obtain ⟨u, p1, _, p2⟩ := hc i.toNat _ ((cellsStr_get hq).2 i.toNat l[i.toNat] (List.getElem?_eq_getElem hlt))
          have p2' : u = .string l[i.toNat] := p2
          subst p2'
          refine ok_val hh (v := .string l[i.toNat]) ?_ (by rw [List.getD_eq_getElem?_getD, List.getElem?_eq_getElem hlt]; rfl)
          simp [execOp, ho, hv, hy', index_array_run hu hd rfl h1c h0 h1 p1]
      · cases hs
    · cases hs
  · cases hs

/-! slices of what is there -/
theorem optI_ev {ρ : Operand → TV} {x : Option Operand} {r : Option Int} (hρ : ∀ y, RelTV G w h (ev y) (ρ y)) (hs : optI (x.map ρ) = some r) : ∃ k, x.map ev = r.map fun n => .int k n := by
  cases x with
  | none =>
    simp only [Option.map_none, optI, Option.some.injEq] at hs
    subst hs
    exact ⟨.i64, rfl⟩
  | some y =>
    simp only [Option.map_some] at hs ⊢
    unfold optI at hs
    split at hs
    · rename_i e; cases e
    · rename_i k n e
      simp only [Option.some.injEq] at e hs
      subst hs
      have := hρ y
      rw [e] at this
      have : ev y = .int k n := this
      exact ⟨k, by simp [this]⟩
    · cases hs

theorem bounds_spec {lo hi : Option Int} {n : Nat} (hb : (bounds lo hi n).1 = true) : (bounds lo hi n).2.1 ≤ (bounds lo hi n).2.2 ∧ (bounds lo hi n).2.2 ≤ n := by
  simp only [bounds, Bool.and_eq_true, decide_eq_true_eq] at hb ⊢
  omega

theorem bounds_run {lo hi : Option Int} {n c : Nat} {k k' : IntKind} (hb : (bounds lo hi n).1 = true) (hc : n ≤ c) (b : Bool) (w : World) :
    (Instr.sliceBounds b n c (lo.map fun n => .int k n) (hi.map fun n => .int k' n) none).run P w = .ok ((bounds lo hi n).2.1, (bounds lo hi n).2.2, c) w := by
  simp only [bounds, Bool.and_eq_true, decide_eq_true_eq] at hb
  obtain ⟨h0, h1, h2⟩ := hb
  cases lo with
  | none =>
    cases hi with
    | none => simp [Instr.sliceBounds, bounds]
    | some u =>
      simp only [Option.getD_some, Option.getD_none] at h0 h1 h2
      simp only [Instr.sliceBounds, bounds, Option.map_some, Option.map_none, Sem.run_bind, Sem.run_pure, Result.andThen_ok, Option.getD_some, Option.getD_none, Int.toNat_zero]
      rw [run_sliceBound w k' u c _ (by omega) (by omega)]
      simp
  | some l =>
    cases hi with
    | none =>
      simp only [Option.getD_some, Option.getD_none] at h0 h1 h2
      simp only [Instr.sliceBounds, bounds, Option.map_some, Option.map_none, Sem.run_bind, Sem.run_pure, Result.andThen_ok, Option.getD_some, Option.getD_none, Int.toNat_natCast]
      rw [run_sliceBound w k l n _ (by omega) (by omega)]
      simp
    | some u =>
      simp only [Option.getD_some] at h0 h1 h2
      simp only [Instr.sliceBounds, bounds, Option.map_some, Sem.run_bind, Sem.run_pure, Result.andThen_ok, Option.getD_some]
      rw [run_sliceBound w k' u c _ (by omega) (by omega)]
      simp only [Result.andThen_ok]
      rw [run_sliceBound w k l u.toNat _ (by omega) (by omega)]
      simp

theorem slice_run {t e : TypeId} {st n c : Nat} {b : Option Addr} {lo hi : Option Int} {k k' : IntKind} (hu : P.underlying t = some (.slice e)) (hst : st = P.cellsOf e) (hpos : 0 < st) (hb : (bounds lo hi n).1 = true) (hc : n ≤ c) (w : World) :
    (Instr.sliceAt t (.slice b n c) (lo.map fun n => .int k n) (hi.map fun n => .int k' n) none).run P w =
      .ok (.slice (if c = (bounds lo hi n).2.1 then b else b.map (·.add ((bounds lo hi n).2.1 * st))) ((bounds lo hi n).2.2 - (bounds lo hi n).2.1) (c - (bounds lo hi n).2.1)) w := by
  obtain ⟨inf, hi', hsz⟩ := info_of_cells (P := P) (t := e) (by omega)
  simp only [Instr.sliceAt, Sem.run_bind, run_underlying hu, Result.andThen_ok, Instr.slice, bounds_run hb hc, run_sizeOf' hi', hsz, ← hst, Sem.run_pure]

theorem str_slice_run {t : TypeId} {s : ByteArray} {lo hi : Option Int} {k k' : IntKind} (hu : P.underlying t = some .string) (hb : (bounds lo hi s.size).1 = true) (w : World) :
    (Instr.sliceAt t (.string s) (lo.map fun n => .int k n) (hi.map fun n => .int k' n) none).run P w = .ok (.string (s.extract (bounds lo hi s.size).2.1 (bounds lo hi s.size).2.2)) w := by
  simp only [Instr.sliceAt, Sem.run_bind, run_underlying hu, Result.andThen_ok, Instr.slice, bounds_run hb (Nat.le_refl _), Sem.run_pure]
  simp [bounds_run hb (Nat.le_refl _)]

theorem relTV_lit {v : Value} {r : Row} {xs : List r.den} {ho : Option (Nat × Nat)} (hr : ∃ base cap, v = .slice base xs.length cap ∧ RelSl w (fun b => G.zone b = .frz) (fun b => G.zone b = .frz) r base cap xs) : RelTV G w h v (.c (.v (.lit none ho r xs))) :=
  relCell_sl.2 hr

theorem op_slice {t : TypeId} {x : Operand} {lo hi : Option Operand} {q : Nat → Ent} {g : Bool} {δ : Delta} {ρ : Operand → TV} (ho : o.op = .slice t x lo hi none) (hh : RelH G w h) (hq : ∀ n, q n ≠ .gone → h[n]? = some (q n))
    (hρ : ∀ y, RelTV G w h (ev y) (ρ y)) (hs : sliceD P t q (ρ x) (lo.map ρ) (hi.map ρ) none = some (g, δ)) (hg : g = true) : OpOk P pars G w h ev o δ := by
  subst hg
  have hx := hρ x
  generalize ρ x = xv at hx hs
  unfold sliceD at hs
  split at hs
  · rename_i b _
    cases hl : optI (lo.map ρ) with
    | none => rw [hl] at hs; cases hs
    | some l =>
      cases hi0 : optI (hi.map ρ) with
      | none => rw [hl, hi0] at hs; cases hs
      | some u =>
        rw [hl, hi0] at hs
        obtain ⟨k, ek⟩ := optI_ev hρ hl
        obtain ⟨k', ek'⟩ := optI_ev hρ hi0
        simp only at hs
        split at hs
        · rename_i s hu
          simp only [okIf, Option.some.injEq, Prod.mk.injEq] at hs
          obtain ⟨hb, rfl⟩ := hs
          have hx' : ev x = .string s := hx
          refine ok_val hh (v := .string (s.extract (bounds l u s.size).2.1 (bounds l u s.size).2.2)) ?_ rfl
          simp [execOp, ho, hx', ek, ek', str_slice_run hu hb]
        · rename_i n e hu
          cases hn : q n <;> rw [hn] at hs <;> simp only [reduceCtorEq] at hs
          rename_i a
          have harr := hq n (by rw [hn]; simp)
          rw [hn] at harr
          cases hz : (a.plain && Nat.beq a.row.size (P.cellsOf e)) <;> rw [hz] at hs <;> simp only [cond_false, cond_true, reduceCtorEq, okIf, Option.some.injEq, Prod.mk.injEq] at hs
          obtain ⟨hb, rfl⟩ := hs
          simp only [Bool.and_eq_true] at hz
          have hsz : a.row.size = P.cellsOf e := Nat.eq_of_beq_eq_true hz.2
          obtain ⟨a', ha', hv⟩ := hx
          rw [harr] at ha'
          injection ha' with ha'
          injection ha' with ha'
          subst ha'
          have hcap := (relArr_of hh harr).2.2.1
          have hbd := bounds_spec hb
          refine ok_val hh (v := .slice (if G.cap n = (bounds l u a.rows.length).2.1 then G.base n else (G.base n).map (·.add ((bounds l u a.rows.length).2.1 * a.row.size))) ((bounds l u a.rows.length).2.2 - (bounds l u a.rows.length).2.1) (G.cap n - (bounds l u a.rows.length).2.1)) ?_ ⟨a, _, harr, by omega, rfl, fun hc => by rw [if_neg hc]⟩
          simp [execOp, ho, hv, ek, ek', slice_run hu hsz a.row.size_pos hb hcap]
        · rename_i n l0 len e hu
          cases hn : q n <;> rw [hn] at hs <;> simp only [reduceCtorEq] at hs
          rename_i a
          have harr := hq n (by rw [hn]; simp)
          rw [hn] at harr
          cases hz : (a.plain && Nat.beq a.row.size (P.cellsOf e)) <;> rw [hz] at hs <;> simp only [cond_false, cond_true, reduceCtorEq, okIf, Option.some.injEq, Prod.mk.injEq] at hs
          obtain ⟨hb, rfl⟩ := hs
          simp only [Bool.and_eq_true] at hz
          have hsz : a.row.size = P.cellsOf e := Nat.eq_of_beq_eq_true hz.2
          obtain ⟨a', bb, ha', hle, hv, hbb⟩ := hx
          rw [harr] at ha'
          injection ha' with ha'
          injection ha' with ha'
          subst ha'
          have hcap := (relArr_of hh harr).2.2.1
          have hbd := bounds_spec hb
          refine ok_val hh (v := .slice (if G.cap n - l0 = (bounds l u len).2.1 then bb else bb.map (·.add ((bounds l u len).2.1 * a.row.size))) ((bounds l u len).2.2 - (bounds l u len).2.1) (G.cap n - l0 - (bounds l u len).2.1)) ?_ ⟨a, _, harr, by omega, by rw [Nat.sub_sub], fun hc => ?_⟩
          · simp [execOp, ho, hv, ek, ek', slice_run hu hsz a.row.size_pos hb (show len ≤ G.cap n - l0 by omega)]
          · rw [if_neg (by omega), hbb (by omega), Option.map_map]
            obtain ⟨_, _, _, hcc⟩ := relArr_of hh harr
            rcases hcc with hcc | ⟨ad, vs, h1, h2, _⟩
            · omega
            · rw [h1]
              simp only [Option.map_some, Function.comp_apply, Option.some.injEq]
              rw [addr_eta h2, Addr.add_lit, Addr.add_lit, Addr.add_lit, Nat.add_mul, Nat.add_assoc]
        · rename_i ho' r xs e hu
          cases hz : Nat.beq r.size (P.cellsOf e) <;> rw [hz] at hs <;> simp only [cond_false, cond_true, reduceCtorEq, okIf, Option.some.injEq, Prod.mk.injEq] at hs
          obtain ⟨hb, rfl⟩ := hs
          have hsz : r.size = P.cellsOf e := Nat.eq_of_beq_eq_true hz
          obtain ⟨base, cap, hv, hcl, hcc⟩ := relCell_sl.1 (show RelCell w (fun b => G.zone b = .frz) (.sl r) (ev x) xs from hx)
          have hbd := bounds_spec hb
          have hlen : ((xs.drop (bounds l u xs.length).2.1).take ((bounds l u xs.length).2.2 - (bounds l u xs.length).2.1)).length = (bounds l u xs.length).2.2 - (bounds l u xs.length).2.1 := by
            rw [List.length_take, List.length_drop]; omega
          refine ok_val hh (v := .slice (if cap = (bounds l u xs.length).2.1 then base else base.map (·.add ((bounds l u xs.length).2.1 * r.size))) ((bounds l u xs.length).2.2 - (bounds l u xs.length).2.1) (cap - (bounds l u xs.length).2.1)) ?_ (relTV_lit ⟨(if cap = (bounds l u xs.length).2.1 then base else base.map (·.add ((bounds l u xs.length).2.1 * r.size))), cap - (bounds l u xs.length).2.1, by rw [hlen], by rw [hlen]; omega, ?_⟩)
          · simp [execOp, ho, hv, ek, ek', slice_run hu hsz r.size_pos hb hcl]
          · rcases hcc with hcc | ⟨ad, vs, h1, h2, h3, h4, h5, h6⟩
            · exact .inl (by omega)
            · by_cases he : cap = (bounds l u xs.length).2.1
              · exact .inl (by omega)
              · refine .inr ⟨⟨ad.block, ad.off + (bounds l u xs.length).2.1 * r.size, none⟩, vs, ?_, rfl, h3, h4, ?_, fun i y hy => ?_⟩
                · rw [if_neg he, h1]
                  simp only [Option.map_some, Option.some.injEq]
                  rw [addr_eta h2, Addr.add_lit]
                · have : ad.off + (bounds l u xs.length).2.1 * r.size + (cap - (bounds l u xs.length).2.1) * r.size = ad.off + cap * r.size := by
                    rw [Nat.add_assoc, ← Nat.add_mul, Nat.add_sub_cancel' (by omega)]
                  show ad.off + (bounds l u xs.length).2.1 * r.size + (cap - (bounds l u xs.length).2.1) * r.size ≤ vs.size
                  omega
                · rw [List.getElem?_take, List.getElem?_drop] at hy
                  split at hy
                  · have := h6 _ _ hy
                    rw [Nat.add_mul, ← Nat.add_assoc] at this
                    exact this
                  · cases hy
        · cases hs
  · rename_i hc; cases hc
  · cases hs

/-! conversions that lay nothing -/
theorem op_conv_int {src dst : TypeId} {x : Operand} {k j : IntKind} {n : Int} {d : TypeDesc} (ho : o.op = .convert src dst x) (hh : RelH G w h) (hx : ev x = .int j n) (hsrc : P.underlying src = some d) (hd : P.underlying dst = some (.int k)) :
    OpOk P pars G w h ev o { val := .c (.v (.int k (k.wrap n))) } := by
  refine ok_val hh (v := .int k (k.wrap n)) ?_ rfl
  have h2 : (convert src dst (.int j n)).run P w = .ok (.int k (k.wrap n)) w := by
    simp only [convert, Sem.run_bind, run_underlying hsrc, run_underlying hd, Result.andThen_ok]
    cases d <;> rfl
  simp [execOp, ho, hx, h2]

theorem op_conv_str {src dst : TypeId} {x : Operand} {s : ByteArray} (ho : o.op = .convert src dst x) (hh : RelH G w h) (hx : ev x = .string s) (hsrc : P.underlying src = some .string) (hd : P.underlying dst = some .string) :
    OpOk P pars G w h ev o { val := .c (.v (.str s)) } := by
  refine ok_val hh (v := .string s) ?_ rfl
  have h2 : (convert src dst (.string s)).run P w = .ok (.string s) w := by
    simp only [convert, Sem.run_bind, run_underlying hsrc, run_underlying hd, Result.andThen_ok]
    rfl
  simp [execOp, ho, hx, h2]

/-- Frozen, or given up. -/
def GZ (G : Gh) (ks : List Nat) (b : Nat) : Prop := G.zone b = .frz ∨ ∃ m, m ∈ ks ∧ G.zone b = .top m

theorem gz_top {n : Nat} {a : Arr} {l : List Nat} (hl : l = bif a.virt then [] else bif a.own || a.fix then [n] else []) (hv : a.virt = false) {b : Nat} (hb : ZArr G n a b) : GZ G l b := by
  subst hl
  rw [hv]
  unfold ZArr at hb
  cases ho : a.own with
  | true => rw [ho] at hb; exact .inr ⟨n, by simp, by simpa using hb⟩
  | false =>
    rw [ho] at hb
    cases hf : a.fix with
    | true =>
      rw [hf] at hb
      simp only [Bool.false_eq_true, if_false, if_true] at hb
      rcases hb with hb | hb
      · exact .inl hb
      · exact .inr ⟨n, by simp, hb⟩
    | false => rw [hf] at hb; exact .inl (by simpa using hb)

/-- What a slice holds, as memory has it. -/
theorem held_rel {q : Nat → Ent} {b : BV} {v : Value} {r : Row} {xs : List r.den} (hh : RelH G w h) (hq : ∀ n, q n ≠ .gone → h[n]? = some (q n)) (hr : RelB G w h v b) (hs : heldOf q b = some ⟨r, xs⟩) :
    ∃ base cap, v = .slice base xs.length cap ∧ RelSl w (GZ G (givesOf q b)) (fun b => G.zone b = .frz) r base cap xs := by
  unfold heldOf at hs
  split at hs
  · rename_i n
    cases hn : q n <;> rw [hn] at hs <;> simp only [reduceCtorEq] at hs
    rename_i a
    have harr := hq n (by rw [hn]; simp)
    rw [hn] at harr
    cases hp : a.plain <;> rw [hp] at hs <;> simp only [cond_false, cond_true, reduceCtorEq, Option.some.injEq] at hs
    obtain ⟨a', ha', hv⟩ := hr
    rw [harr] at ha'
    injection ha' with ha'
    injection ha' with ha'
    subst ha'
    cases hs
    obtain ⟨_, h2, h3⟩ := relArr_of hh harr
    refine ⟨_, _, hv, ?_⟩
    cases hvt : a.virt with
    | true => exact ⟨h3.1, .inl (h2 hvt)⟩
    | false =>
      refine h3.mono (fun b _ hb => ⟨?_, rfl⟩) (fun _ _ hz => ⟨hz, rfl⟩)
      exact gz_top (a := a) (by simp only [givesOf, hn]) hvt hb
  · rename_i n lo len
    cases hn : q n <;> rw [hn] at hs <;> simp only [reduceCtorEq] at hs
    rename_i a
    have harr := hq n (by rw [hn]; simp)
    rw [hn] at harr
    cases hp : a.plain <;> rw [hp] at hs <;> simp only [cond_false, cond_true, reduceCtorEq, Option.some.injEq] at hs
    obtain ⟨a', bb, ha', hle, hv, hbb⟩ := hr
    rw [harr] at ha'
    injection ha' with ha'
    injection ha' with ha'
    subst ha'
    cases hs
    obtain ⟨_, h2, h3, h4⟩ := relArr_of hh harr
    have hlen : ((a.rows.drop lo).take len).length = len := by rw [List.length_take, List.length_drop]; omega
    refine ⟨bb, G.cap n - lo, by rw [hlen]; exact hv, by rw [hlen]; omega, ?_⟩
    by_cases hc : G.cap n = lo
    · exact .inl (by omega)
    · rcases h4 with h4 | ⟨ad, vs, p1, p2, p3, p4, p5, p6⟩
      · omega
      · refine .inr ⟨⟨ad.block, ad.off + lo * a.row.size, none⟩, vs, ?_, rfl, gz_top (a := a) (by simp only [givesOf, hn]) (by cases hvt : a.virt with | false => rfl | true => have := h2 hvt; omega) p3, p4, ?_, fun i y hy => ?_⟩
        · rw [hbb hc, p1]
          simp only [Option.map_some, Option.some.injEq]
          rw [addr_eta p2, Addr.add_lit]
        · have : ad.off + lo * a.row.size + (G.cap n - lo) * a.row.size = ad.off + G.cap n * a.row.size := by
            rw [Nat.add_assoc, ← Nat.add_mul, Nat.add_sub_cancel' (by omega)]
          show ad.off + lo * a.row.size + (G.cap n - lo) * a.row.size ≤ vs.size
          omega
        · rw [List.getElem?_take, List.getElem?_drop] at hy
          split at hy
          · have := p6 _ _ hy
            rw [Nat.add_mul, ← Nat.add_assoc] at this
            exact this
          · cases hy
  · rename_i ho r' ys
    simp only [Option.some.injEq, Held.mk.injEq] at hs
    obtain ⟨rfl, hs⟩ := hs
    cases hs
    obtain ⟨base, cap, hv, h3⟩ := relCell_sl.1 (show RelCell w (fun b => G.zone b = .frz) (.sl r') v ys from hr)
    exact ⟨base, cap, hv, h3.mono (fun _ _ hb => ⟨.inl hb, rfl⟩) (fun _ _ hz => ⟨hz, rfl⟩)⟩
  · simp only [Option.some.injEq, Held.mk.injEq] at hs
    obtain ⟨rfl, hs⟩ := hs
    have hs := eq_of_heq hs
    subst hs
    obtain ⟨b, hv⟩ := hr
    exact ⟨b, 0, hv, (by simp : ([] : List _).length ≤ 0), .inl rfl⟩
  · cases hs

theorem op_conv_bytes {src dst e : TypeId} {x : Operand} {q : Nat → Ent} {b : BV} {xs : List Int} (ho : o.op = .convert src dst x) (hh : RelH G w h) (hq : ∀ n, q n ≠ .gone → h[n]? = some (q n))
    (hx : RelB G w h (ev x) b) (hs : heldOf q b = some ⟨.one (.int .u8), xs⟩) (hsrc : P.underlying src = some (.slice e)) (he : P.underlying e = some (.int .u8)) (hd : P.underlying dst = some .string) :
    OpOk P pars G w h ev o { val := .c (.v (.str (strOf xs))) } := by
  obtain ⟨base, cap, hv, hl, hc⟩ := held_rel hh hq hx hs
  refine ok_val hh (v := .string (strOf xs)) ?_ rfl
  have key : (convert src dst (ev x)).run P w = .ok (.string (strOf xs)) w := by
    rw [hv]
    have hnil : xs.length = 0 → strOf xs = ByteArray.empty := by
      intro h0
      have : xs = [] := List.length_eq_zero_iff.1 h0
      subst this; rfl
    rcases hc with hc | ⟨ad, vs, h1, h2, _, h4, h5, h6⟩
    · have h0 : List.length xs = 0 := by have : List.length xs ≤ cap := hl; omega
      cases base with
      | none => rw [run_convert_bytes_nil w src e hsrc he _ _ dst hd, hnil h0]
      | some a =>
        show (convert src dst (.slice (some a) (List.length xs) cap)).run P w = _
        rw [h0]
        have hll : (loadCells a 0).run P w = .ok #[] w := rfl
        rw [run_convert_bytes_string w src dst e _ 0 cap hsrc he hd, hnil h0]
        have := run_bytesToString (P := P) w a 0 cap [] (by simpa using hll)
        simpa using this
    · subst h1
      rw [addr_eta h2]
      refine run_convert_bytes_arg w src e hsrc he ad.block ad.off _ cap xs rfl (fun i hi => ?_) dst hd
      have hr := h6 i xs[i] (List.getElem?_eq_getElem hi)
      simp only [RelRow, RelCell, Row.size, Nat.mul_one] at hr
      obtain ⟨u, p1, p2⟩ := hr
      rw [h4.cell, p1, p2, List.getD_eq_getElem?_getD, List.getElem?_eq_getElem hi]
      rfl
  simp [execOp, ho, key]
end
end Go.Sx

/- What one operation does: memory laid anew. -/
set_option linter.unusedVariables false
set_option linter.unusedSimpArgs false
namespace Go.Sx

def updF {α : Type} (f : Nat → α) (n : Nat) (v : α) : Nat → α := fun m => if m = n then v else f m
theorem updF_same {α : Type} (f : Nat → α) (n : Nat) (v : α) : updF f n v n = v := by simp [updF]
theorem updF_ne {α : Type} (f : Nat → α) {n m : Nat} (v : α) (h : m ≠ n) : updF f n v m = f m := by simp [updF, h]

theorem alloc_old (w : World) (ob : Obj) {b : Nat} (hb : b < w.heap.size) : (w.alloc ob).heap[b]? = w.heap[b]? := by
  simp only [World.alloc, Array.getElem?_push]
  rw [if_neg (by omega)]

theorem alloc_new (w : World) (ob : Obj) : (w.alloc ob).heap[w.heap.size]? = some ob := by simp only [World.alloc, Array.getElem?_push_size]

theorem alloc_size (w : World) (ob : Obj) : (w.alloc ob).heap.size = w.heap.size + 1 := by simp only [World.alloc, Array.size_push]

theorem alloc_thaw (w : World) (vs : Array Value) (e : TypeId) (fr : Nat × Nat) (hf : ∀ i, i < vs.size → ¬ (fr.1 ≤ i ∧ i < fr.2)) :
    ∀ b, w.heap.size ≤ b → ∀ us, Blk (w.alloc (.cells vs e fr)) b us → ∀ i, i < us.size → (w.alloc (.cells vs e fr)).frozen? ⟨b, i, none⟩ = false := by
  intro b hb us hu i hi
  obtain ⟨e', fr', he⟩ := hu
  rcases Nat.lt_or_ge w.heap.size b with h1 | h1
  · rw [Array.getElem?_eq_none (by rw [alloc_size]; omega)] at he; cases he
  · have : b = w.heap.size := by omega
    subst this
    rw [alloc_new] at he
    injection he with he
    injection he with h2 h3 h4
    subst h2
    unfold World.frozen?
    simp only [alloc_new]
    have := hf i hi
    simpa using this

section
variable {P : Program} {pars : Nat} {G : Gh} {w : World} {h : List Ent} {ev : Operand → Value} {o : Oper}

/-! rows of no element -/
def Gh.virt (G : Gh) (S : List (Nat × Ent)) : Gh :=
  { G with base := fun n => if n ∈ S.map (·.1) then none else G.base n, cap := fun n => if n ∈ S.map (·.1) then 0 else G.cap n }

def ZeroRel (S : List (Nat × Ent)) (u : Value) (b : BV) : Prop :=
  u.oneCell' = true ∧ ((∃ n r, b = .ref n ∧ (n, Ent.arr (.nil r)) ∈ S ∧ u = .slice none 0 0) ∨ ∀ (G : Gh) (w : World) (h : List Ent), RelB G w h u b)

theorem ZeroRel.mono {S S' : List (Nat × Ent)} {u : Value} {b : BV} (hs : ∀ x, x ∈ S → x ∈ S') (hz : ZeroRel S u b) : ZeroRel S' u b := by
  obtain ⟨h1, h2⟩ := hz
  refine ⟨h1, ?_⟩
  rcases h2 with ⟨n, r, e, hm, hv⟩ | h2
  · exact .inl ⟨n, r, e, hs _ hm, hv⟩
  · exact .inr h2

theorem zeroBV_names : ∀ (tys : List Ty) (nm : Nat), (zeroBV nm tys).1.length = tys.length ∧ (∀ x ∈ (zeroBV nm tys).2, nm ≤ x.1 ∧ x.1 < nm + tys.length ∧ ∃ r, x.2 = .arr (.nil r)) ∧ ((zeroBV nm tys).2.map (·.1)).Nodup
  | [], nm => by simp [zeroBV]
  | t :: l, nm => by
    cases t with
    | int k =>
      obtain ⟨h1, h2, h3⟩ := zeroBV_names l nm
      refine ⟨by simp [zeroBV, h1], fun x hx => ?_, by simpa [zeroBV] using h3⟩
      obtain ⟨p1, p2, p3⟩ := h2 x (by simpa [zeroBV] using hx)
      exact ⟨p1, by simp only [List.length_cons]; omega, p3⟩
    | bool =>
      obtain ⟨h1, h2, h3⟩ := zeroBV_names l nm
      refine ⟨by simp [zeroBV, h1], fun x hx => ?_, by simpa [zeroBV] using h3⟩
      obtain ⟨p1, p2, p3⟩ := h2 x (by simpa [zeroBV] using hx)
      exact ⟨p1, by simp only [List.length_cons]; omega, p3⟩
    | str =>
      obtain ⟨h1, h2, h3⟩ := zeroBV_names l nm
      refine ⟨by simp [zeroBV, h1], fun x hx => ?_, by simpa [zeroBV] using h3⟩
      obtain ⟨p1, p2, p3⟩ := h2 x (by simpa [zeroBV] using hx)
      exact ⟨p1, by simp only [List.length_cons]; omega, p3⟩
    | sl r =>
      obtain ⟨h1, h2, h3⟩ := zeroBV_names l (nm + 1)
      refine ⟨by simp [zeroBV, h1], fun x hx => ?_, ?_⟩
      · simp only [zeroBV, List.mem_cons] at hx
        rcases hx with rfl | hx
        · exact ⟨Nat.le_refl _, by simp, r, rfl⟩
        · obtain ⟨p1, p2, p3⟩ := h2 x hx
          exact ⟨by omega, by simp only [List.length_cons]; omega, p3⟩
      · simp only [zeroBV, List.map_cons, List.nodup_cons]
        refine ⟨fun hm => ?_, h3⟩
        obtain ⟨x, hx, hx1⟩ := List.mem_map.1 hm
        have := (h2 x hx).1
        omega

theorem zeroBV_rel : ∀ (tys : List Ty) (nm : Nat) (vs : List Value), zerosB tys vs = true → vs.length = tys.length ∧ ∀ (i : Nat) (b : BV), (zeroBV nm tys).1[i]? = some b → ∃ u, vs[i]? = some u ∧ ZeroRel (zeroBV nm tys).2 u b
  | [], nm, vs, hz => by
    cases vs with
    | nil => simp [zeroBV]
    | cons v vs => simp [zerosB] at hz
  | t :: l, nm, vs, hz => by
    cases vs with
    | nil => cases t <;> simp [zerosB] at hz
    | cons v vs =>
      have step : ∀ (nm' : Nat) (b0 : BV) (S : List (Nat × Ent)), zerosB l vs = true → (zeroBV nm (t :: l)).1 = b0 :: (zeroBV nm' l).1 → (zeroBV nm (t :: l)).2 = S ++ (zeroBV nm' l).2 → ZeroRel (zeroBV nm (t :: l)).2 v b0 →
          (v :: vs).length = (t :: l).length ∧ ∀ (i : Nat) (b : BV), (zeroBV nm (t :: l)).1[i]? = some b → ∃ u, (v :: vs)[i]? = some u ∧ ZeroRel (zeroBV nm (t :: l)).2 u b := by
        intro nm' b0 S hz' e1 e2 hr
        obtain ⟨p1, p2⟩ := zeroBV_rel l nm' vs hz'
        refine ⟨by simp [p1], fun i b hi => ?_⟩
        rw [e1] at hi
        cases i with
        | zero =>
          simp only [List.getElem?_cons_zero, Option.some.injEq] at hi
          subst hi
          exact ⟨v, rfl, hr⟩
        | succ i =>
          simp only [List.getElem?_cons_succ] at hi ⊢
          obtain ⟨u, q1, q2⟩ := p2 i b hi
          exact ⟨u, q1, q2.mono fun x hx => by rw [e2]; exact List.mem_append_right _ hx⟩
      cases t with
      | int k =>
        cases v <;> simp only [zerosB, Bool.false_eq_true, Bool.and_eq_true, decide_eq_true_eq] at hz
        obtain ⟨⟨rfl, rfl⟩, hz⟩ := hz
        exact step nm (.int k 0) [] hz rfl rfl ⟨rfl, .inr fun _ _ _ => rfl⟩
      | bool =>
        cases v <;> simp only [zerosB, Bool.false_eq_true, Bool.and_eq_true, Bool.not_eq_true'] at hz
        obtain ⟨rfl, hz⟩ := hz
        exact step nm (.bool false) [] hz rfl rfl ⟨rfl, .inr fun _ _ _ => rfl⟩
      | str =>
        cases v <;> simp only [zerosB, Bool.false_eq_true, Bool.and_eq_true] at hz
        rename_i s
        obtain ⟨h0, hz⟩ := hz
        have : s = ByteArray.empty := by
          have := Nat.eq_of_beq_eq_true h0
          obtain ⟨d⟩ := s
          have : d = #[] := Array.eq_empty_of_size_eq_zero this
          rw [this]; rfl
        subst this
        exact step nm (.str .empty) [] hz rfl rfl ⟨rfl, .inr fun _ _ _ => rfl⟩
      | sl r =>
        cases v <;> try (simp [zerosB] at hz; done)
        rename_i a n c
        have hz' : a = none ∧ n = 0 ∧ c = 0 ∧ zerosB l vs = true := by
          cases a with
          | some a => simp [zerosB] at hz
          | none =>
            cases n with
            | succ n => simp [zerosB] at hz
            | zero =>
              cases c with
              | succ c => simp [zerosB] at hz
              | zero => exact ⟨rfl, rfl, rfl, by simpa [zerosB] using hz⟩
        obtain ⟨rfl, rfl, rfl, hz⟩ := hz'
        exact step (nm + 1) (.ref nm) [(nm, .arr (.nil r))] hz rfl rfl ⟨rfl, .inl ⟨nm, r, rfl, by simp [zeroBV], rfl⟩⟩

theorem zeroRel_relB {S : List (Nat × Ent)} {G' : Gh} {w' : World} {h' : List Ent} {u : Value} {b : BV} (hz : ZeroRel S u b)
    (hS : ∀ n r, (n, Ent.arr (.nil r)) ∈ S → h'[n]? = some (.arr (.nil r)) ∧ G'.base n = none ∧ G'.cap n = 0) : RelB G' w' h' u b := by
  obtain ⟨_, hz⟩ := hz
  rcases hz with ⟨n, r, rfl, hm, rfl⟩ | hz
  · obtain ⟨p1, p2, p3⟩ := hS n r hm
    exact ⟨.nil r, p1, by rw [p2, p3]; rfl⟩
  · exact hz _ _ _

theorem relArr_nil {G' : Gh} {w' : World} {n : Nat} {r : Row} (hc : G'.cap n = 0) : RelArr G' w' n (.nil r) :=
  ⟨⟨rfl, fun _ _ h => absurd hc h⟩, fun _ => hc, Nat.zero_le _, .inl hc⟩

/-- A nil slice as a row of its own. -/
theorem op_nil {x : Operand} {r : Row} {nm : Nat} (ho : o.op = .move x ∨ o.op = .assign x) (hx : ev x = .slice none 0 0) (hh : RelH G w h) (hf : h[nm]? = some .gone) (hp : pars ≤ nm) :
    OpOk P pars G w h ev o { val := .c (.v (.ref nm)), sets := [(nm, .arr (.nil r))] } := by
  refine ⟨.slice none 0 0, w, .inl ?_, ?_⟩
  · rcases ho with ho | ho <;> simp [execOp, ho, hx, Pure.pure]
  · have hget : (newHeap h { val := .c (.v (.ref nm)), sets := [(nm, Ent.arr (.nil r))] })[nm]? = some (.arr (.nil r)) :=
      setAll_mem _ _ (nm, Ent.arr (.nil r)) (by simp) (by simp) (by rcases Nat.lt_or_ge nm h.length with h1 | h1; exact h1; rw [List.getElem?_eq_none h1] at hf; cases hf)
    refine done_fresh0 (G' := G.virt [(nm, .arr (.nil r))]) hh (by simp) (by simpa using hf) (by simpa using hp) (Nat.le_refl _) rfl rfl rfl (fun _ _ => rfl) (fun _ _ => rfl) (fun n hn => ?_) (fun b hb vs hv => absurd hv.lt (by omega)) (fun n a hm => ?_) (fun _ n e hm => ?_) (fun _ => ?_)
    · have : n ≠ nm := fun e => hn (nm, Ent.arr (Arr.nil r)) (by simp) e.symm
      simp [Gh.virt, this]
    · simp only [List.mem_singleton, Prod.mk.injEq, Ent.arr.injEq] at hm
      rw [hm.2]; rfl
    · simp only [List.mem_singleton, Prod.mk.injEq] at hm
      obtain ⟨rfl, rfl⟩ := hm
      exact relArr_nil (by simp [Gh.virt])
    · exact ⟨.nil r, hget, by simp [Gh.virt, Arr.nil]⟩

theorem run_zeroValue' {t : TypeId} {i : TypeInfo} {z : Value} (hi : P.info? t = some i) (hz : i.zero = some z) (w : World) : (zeroValue t).run P w = .ok z w := by
  simp [zeroValue, run_typeInfo' hi, hz]

theorem zeroOk_spec {t : TypeId} {tys : List Ty} (hz : zeroOk P t tys = true) : ∃ i z, P.info? t = some i ∧ i.zero = some z ∧ zerosB tys z.cells.toList = true := by
  unfold zeroOk at hz
  cases hi : P.info? t with
  | none => rw [hi] at hz; cases hz
  | some i =>
    rw [hi] at hz
    simp only [Option.bind_some] at hz
    cases hq : i.zero with
    | none => rw [hq] at hz; cases hz
    | some z => rw [hq] at hz; exact ⟨i, z, rfl, hq, hz⟩

/-- A variable of its own, of the zero value. -/
theorem op_alloc {t : TypeId} {tys : List Ty} {nm : Nat} (ho : o.op = .alloc t) (hh : RelH G w h) (hz : zeroOk P t tys = true)
    (hf : ∀ m, nm ≤ m → m < nm + (1 + tys.length) → h[m]? = some .gone) (hp : pars ≤ nm) :
    OpOk P pars G w h ev o { val := .c (.v (.ptrB nm 0)), sets := (nm, .box (zeroBV (nm + 1) tys).1) :: (zeroBV (nm + 1) tys).2 } := by
  obtain ⟨i, z, hi, hzi, hzb⟩ := zeroOk_spec hz
  obtain ⟨n1, n2, n3⟩ := zeroBV_names tys (nm + 1)
  obtain ⟨z1, z2⟩ := zeroBV_rel tys (nm + 1) _ hzb
  generalize hbs : (zeroBV (nm + 1) tys).1 = bs at *
  generalize hS : (zeroBV (nm + 1) tys).2 = S at *
  refine ⟨.pointer (some ⟨w.heap.size, 0, none⟩), w.alloc (.cells z.cells t), .inl ?_, ?_⟩
  · simp [execOp, ho, Instr.alloc, run_zeroValue' hi hzi, newVar, newRow]
  · have hfr : ∀ x ∈ (nm, Ent.box bs) :: S, h[x.1]? = some .gone := by
      intro x hx
      rcases List.mem_cons.1 hx with rfl | hx
      · exact hf nm (Nat.le_refl _) (by omega)
      · obtain ⟨q1, q2, _⟩ := n2 x hx
        exact hf x.1 (by omega) (by omega)
    have hlt : ∀ x ∈ (nm, Ent.box bs) :: S, x.1 < h.length := by
      intro x hx
      rcases Nat.lt_or_ge x.1 h.length with h1 | h1
      · exact h1
      · have := hfr x hx; rw [List.getElem?_eq_none h1] at this; cases this
    have hnm : nm ∉ S.map (·.1) := by
      intro hm
      obtain ⟨x, hx, hx1⟩ := List.mem_map.1 hm
      have := (n2 x hx).1
      omega
    have hnd : (((nm, Ent.box bs) :: S).map (·.1)).Nodup := by simp only [List.map_cons, List.nodup_cons]; exact ⟨hnm, n3⟩
    have hget : ∀ x ∈ (nm, Ent.box bs) :: S, (newHeap h { val := .c (.v (.ptrB nm 0)), sets := (nm, Ent.box bs) :: S })[x.1]? = some x.2 := fun x hx => setAll_mem _ _ x hx hnd (hlt x hx)
    let G' : Gh := { (G.virt S) with zone := updF G.zone w.heap.size (.box nm), blk := updF G.blk nm (w.heap.size, 0) }
    have hbox : RelBox G' (w.alloc (.cells z.cells t)) (newHeap h { val := .c (.v (.ptrB nm 0)), sets := (nm, Ent.box bs) :: S }) nm bs := by
      refine ⟨by simp [G', updF_same], z.cells, ?_, by simp only [G', updF_same]; rw [n1, ← z1]; simp, fun i b hib => ?_⟩
      · simp only [G', updF_same]
        exact ⟨t, (0, 0), alloc_new _ _⟩
      · obtain ⟨u, p1, p2⟩ := z2 i b hib
        refine ⟨u, by simpa [G', updF_same] using p1, p2.1, zeroRel_relB p2 fun n r hm => ⟨hget (n, _) (List.mem_cons_of_mem _ hm), ?_, ?_⟩⟩
        · simp only [G', Gh.virt]; rw [if_pos (List.mem_map_of_mem hm)]
        · simp only [G', Gh.virt]; rw [if_pos (List.mem_map_of_mem hm)]
    refine done_fresh0 (G' := G') hh hnd hfr (fun x hx => ?_) (by rw [alloc_size]; omega) rfl rfl rfl (fun b hb => alloc_old _ _ hb) (fun b hb => by simp only [G']; rw [updF_ne _ _ (by omega)]) (fun n hn => ?_)
      (alloc_thaw w _ _ _ (by intro i _; simp)) (fun n a hm => ?_) (fun _ n e hm => ?_) (fun _ => ?_)
    · rcases List.mem_cons.1 hx with rfl | hx
      · exact hp
      · have := (n2 x hx).1; omega
    · have h1 : n ≠ nm := fun e => hn _ List.mem_cons_self e.symm
      have h2 : n ∉ S.map (·.1) := fun hm => by
        obtain ⟨x, hx, hx1⟩ := List.mem_map.1 hm
        exact hn x (List.mem_cons_of_mem _ hx) hx1
      simp only [G', Gh.virt]
      rw [updF_ne _ _ h1, if_neg h2, if_neg h2]
      exact ⟨rfl, rfl, rfl⟩
    · rcases List.mem_cons.1 hm with h1 | h1
      · simp at h1
      · obtain ⟨r, hr⟩ := (n2 _ h1).2.2
        simp only [Ent.arr.injEq] at hr
        rw [hr]; rfl
    · rcases List.mem_cons.1 hm with h1 | h1
      · simp only [Prod.mk.injEq] at h1
        obtain ⟨rfl, rfl⟩ := h1
        exact hbox
      · obtain ⟨r, hr⟩ := (n2 _ h1).2.2
        simp only at hr
        subst hr
        exact relArr_nil (by simp only [G', Gh.virt]; rw [if_pos (List.mem_map_of_mem h1)])
    · exact ⟨bs, hget (nm, .box bs) List.mem_cons_self, by simp [G', updF_same]⟩

/-- The cells of a value. -/
theorem cv_cells {v : Value} {x : CV} (hk : x.cells.all BV.known = true) (hr : RelCV G w h v x) : v.cells.size = x.cells.length ∧ ∀ (i : Nat) (b : BV), x.cells[i]? = some b → ∃ u, v.cells[i]? = some u ∧ u.oneCell' = true ∧ RelB G w h u b := by
  cases x with
  | v b =>
    simp only [CV.cells, List.all_cons, List.all_nil, Bool.and_true] at hk
    have h1 := BV.oneCell hk hr
    have hc : v.cells = #[v] := by cases v <;> first | rfl | cases h1
    rw [hc]
    refine ⟨rfl, fun i b' hi => ?_⟩
    cases i with
    | zero =>
      simp only [CV.cells, List.getElem?_cons_zero, Option.some.injEq] at hi
      subst hi
      exact ⟨v, rfl, h1, hr⟩
    | succ i => simp [CV.cells] at hi
  | agg cs =>
    obtain ⟨vs, rfl, hs, hc⟩ := hr
    exact ⟨hs, hc⟩

theorem relB_same {G' : Gh} {w' : World} {h' : List Ent} {T : Nat → Prop} (tr : Trans [] T G w h G' w' h') {v : Value} {b : BV} (hr : RelB G w h v b) : RelB G' w' h' v b := by
  have hb : b.kill [] [] = b := by
    have := Ent.kill_nil (.box [b])
    simp only [Ent.kill, List.map_cons, List.map_nil, Ent.box.injEq, List.cons.injEq, and_true] at this
    exact this
  have := tr.relKill hr
  rwa [hb] at this

theorem op_box {t : TypeId} {x : Operand} {xv : CV} {nm : Nat} (ho : o.op = .box t x) (hh : RelH G w h) (hx : RelTV G w h (ev x) (.c xv)) (hk : xv.cells.all BV.known = true)
    (hf : h[nm]? = some .gone) (hp : pars ≤ nm) : OpOk P pars G w h ev o { val := .c (.v (.ptrB nm 0)), sets := [(nm, .box xv.cells)] } := by
  obtain ⟨c1, c2⟩ := cv_cells hk hx
  refine ⟨.pointer (some ⟨w.heap.size, 0, none⟩), w.alloc (.cells (ev x).cells t), .inl ?_, ?_⟩
  · simp [execOp, ho, Instr.box, newVar, newRow]
  · have hlt : nm < h.length := by
      rcases Nat.lt_or_ge nm h.length with h1 | h1
      · exact h1
      · rw [List.getElem?_eq_none h1] at hf; cases hf
    have hget : (newHeap h { val := .c (.v (.ptrB nm 0)), sets := [(nm, Ent.box xv.cells)] })[nm]? = some (.box xv.cells) := setAll_mem _ _ (nm, Ent.box xv.cells) (by simp) (by simp) hlt
    let G' : Gh := { G with zone := updF G.zone w.heap.size (.box nm), blk := updF G.blk nm (w.heap.size, 0) }
    refine done_fresh0 (G' := G') hh (by simp) (by simpa using hf) (by simpa using hp) (by rw [alloc_size]; omega) rfl rfl rfl (fun b hb => alloc_old _ _ hb) (fun b hb => by simp only [G']; rw [updF_ne _ _ (by omega)]) (fun n hn => ?_)
      (alloc_thaw w _ _ _ (by intro i _; simp)) (fun n a hm => ?_) (fun tr n e hm => ?_) (fun _ => ?_)
    · have h1 : n ≠ nm := fun e => hn _ List.mem_cons_self e.symm
      simp only [G']
      rw [updF_ne _ _ h1]
      simp
    · simp at hm
    · simp only [List.mem_singleton, Prod.mk.injEq] at hm
      obtain ⟨rfl, rfl⟩ := hm
      refine ⟨by simp [G', updF_same], (ev x).cells, ?_, by simp only [G', updF_same]; omega, fun i b hib => ?_⟩
      · simp only [G', updF_same]
        exact ⟨t, (0, 0), alloc_new _ _⟩
      · obtain ⟨u, p1, p2, p3⟩ := c2 i b hib
        exact ⟨u, by simpa [G', updF_same] using p1, p2, relB_same tr p3⟩
    · exact ⟨xv.cells, hget, by simp [G', updF_same]⟩
end
end Go.Sx

/- What one operation does: rows laid anew. -/
set_option linter.unusedVariables false
set_option linter.unusedSimpArgs false
namespace Go.Sx

section
variable {P : Program} {pars : Nat} {G : Gh} {w : World} {h : List Ent} {ev : Operand → Value} {o : Oper}

theorem GZ.mono {ks ks' : List Nat} (hs : ∀ m, m ∈ ks → m ∈ ks') {b : Nat} (hz : GZ G ks b) : GZ G ks' b := by
  rcases hz with hz | ⟨m, hm, hz⟩
  · exact .inl hz
  · exact .inr ⟨m, hs m hm, hz⟩

/-- A value as the content of a cell. -/
theorem toCell_rel {q : Nat → Ent} (hh : RelH G w h) (hq : ∀ n, q n ≠ .gone → h[n]? = some (q n)) : (t : Ty) → {v : Value} → {b : BV} → {c : CellIn t} → toCell q t b = some c → RelB G w h v b → RelCell w (GZ G c.gives) t v c.x
  | .int k, v, b, c, hs, hr => by
    cases b <;> simp only [toCell, reduceCtorEq] at hs
    split at hs
    · rename_i e
      simp only [Option.some.injEq] at hs
      subst hs; subst e
      simp only [RelCell]; exact hr
    · cases hs
  | .bool, v, b, c, hs, hr => by
    cases b <;> simp only [toCell, reduceCtorEq, Option.some.injEq] at hs
    subst hs
    simp only [RelCell]; exact hr
  | .str, v, b, c, hs, hr => by
    cases b <;> simp only [toCell, reduceCtorEq, Option.some.injEq] at hs
    subst hs
    simp only [RelCell]; exact hr
  | .sl r, v, b, c, hs, hr => by
    simp only [toCell] at hs
    cases hd : heldOf q b with
    | none => rw [hd] at hs; cases hs
    | some d =>
      obtain ⟨r', xs⟩ := d
      rw [hd] at hs
      simp only at hs
      split at hs
      · rename_i e
        subst e
        simp only [Option.some.injEq] at hs
        subst hs
        obtain ⟨base, cap, hv, h3⟩ := held_rel hh hq hr hd
        exact relCell_sl.2 ⟨base, cap, hv, h3.mono (fun _ _ hz => ⟨hz, rfl⟩) (fun _ _ hz => ⟨.inl hz, rfl⟩)⟩
      · cases hs

theorem RelCell.gz {ks ks' : List Nat} (hs : ∀ m, m ∈ ks → m ∈ ks') {t : Ty} {v : Value} {x : t.den} (hr : RelCell w (GZ G ks) t v x) : RelCell w (GZ G ks') t v x :=
  RelCell.mono (fun _ _ hz => hz.mono hs) (fun _ _ _ => rfl) t v x hr
theorem RelRow.gz {ks ks' : List Nat} (hs : ∀ m, m ∈ ks → m ∈ ks') {r : Row} {vs : Array Value} {o : Nat} {x : r.den} (hr : RelRow w (GZ G ks) r vs o x) : RelRow w (GZ G ks') r vs o x :=
  RelRow.mono (fun _ _ hz => hz.mono hs) (fun _ _ _ => rfl) r vs o x hr

/-- Cells, as the content of a row. -/
theorem toRow_rel {q : Nat → Ent} (hh : RelH G w h) (hq : ∀ n, q n ≠ .gone → h[n]? = some (q n)) : (r : Row) → {vs : Array Value} → {oo : Nat} → {l : List BV} → {d : RowIn r} → toRow q r l = some d →
    (∀ (i : Nat) (b : BV), l[i]? = some b → ∃ u, vs[oo + i]? = some u ∧ RelB G w h u b) → RelRow w (GZ G d.gives) r vs oo d.x ∧ l.length = r.size
  | .one t, vs, oo, l, d, hs, hc => by
    match l, hs with
    | [b], hs =>
      simp only [toRow] at hs
      cases hq' : toCell q t b with
      | none => rw [hq'] at hs; cases hs
      | some c =>
        rw [hq'] at hs
        simp only [Option.map_some, Option.some.injEq] at hs
        subst hs
        obtain ⟨u, h1, h2⟩ := hc 0 b rfl
        exact ⟨by simp only [RelRow]; exact ⟨u, h1, toCell_rel hh hq t hq' h2⟩, rfl⟩
    | [], hs => cases hs
    | _ :: _ :: _, hs => simp [toRow] at hs
  | .cons t r, vs, oo, l, d, hs, hc => by
    cases l with
    | nil => cases hs
    | cons b l =>
      simp only [toRow] at hs
      cases hq' : toCell q t b with
      | none => rw [hq'] at hs; cases hs
      | some c =>
        cases hq2 : toRow q r l with
        | none => rw [hq', hq2] at hs; cases hs
        | some d' =>
          rw [hq', hq2] at hs
          simp only [Option.some.injEq] at hs
          subst hs
          obtain ⟨u, h1, h2⟩ := hc 0 b rfl
          obtain ⟨h3, h4⟩ := toRow_rel hh hq r (vs := vs) (oo := oo + 1) hq2 (fun i b' hi => by
            obtain ⟨u, p1, p2⟩ := hc (i + 1) b' (by simpa using hi)
            exact ⟨u, by rw [show oo + 1 + i = oo + (i + 1) by omega]; exact p1, p2⟩)
          refine ⟨?_, by simp [Row.size, h4]⟩
          simp only [RelRow]
          exact ⟨⟨u, h1, (toCell_rel hh hq t hq' h2).gz fun m hm => by simp [hm]⟩, h3.gz fun m hm => by simp [hm]⟩

theorem givesOf_arr {q : Nat → Ent} {b : BV} {m : Nat} (hm : m ∈ givesOf q b) : ∃ a, q m = .arr a := by
  unfold givesOf at hm
  split at hm
  · rename_i n
    cases hn : q n <;> rw [hn] at hm <;> simp only [List.not_mem_nil] at hm
    rename_i a
    have : m = n := by
      cases hv : a.virt <;> cases ho : (a.own || a.fix) <;> simp [hv, ho] at hm
      exact hm
    exact ⟨a, by rw [this]; exact hn⟩
  · rename_i n lo len
    cases hn : q n <;> rw [hn] at hm <;> simp only [List.not_mem_nil] at hm
    rename_i a
    have : m = n := by
      cases hv : a.virt <;> cases ho : (a.own || a.fix) <;> simp [hv, ho] at hm
      exact hm
    exact ⟨a, by rw [this]; exact hn⟩
  · cases hm

theorem toCell_gives {q : Nat → Ent} {t : Ty} {b : BV} {c : CellIn t} (hs : toCell q t b = some c) {m : Nat} (hm : m ∈ c.gives) : ∃ a, q m = .arr a := by
  cases t with
  | int k =>
    cases b <;> simp only [toCell, reduceCtorEq] at hs
    split at hs
    · simp only [Option.some.injEq] at hs
      subst hs; cases hm
    · cases hs
  | bool => cases b <;> simp only [toCell, reduceCtorEq, Option.some.injEq] at hs; subst hs; cases hm
  | str => cases b <;> simp only [toCell, reduceCtorEq, Option.some.injEq] at hs; subst hs; cases hm
  | sl r =>
    simp only [toCell] at hs
    cases hd : heldOf q b with
    | none => rw [hd] at hs; cases hs
    | some d =>
      rw [hd] at hs
      simp only at hs
      split at hs
      · simp only [Option.some.injEq] at hs
        subst hs
        exact givesOf_arr hm
      · cases hs

theorem toRow_gives {q : Nat → Ent} : (r : Row) → {l : List BV} → {d : RowIn r} → toRow q r l = some d → ∀ m, m ∈ d.gives → ∃ a, q m = .arr a
  | .one t, l, d, hs, m, hm => by
    match l, hs with
    | [b'], hs =>
      simp only [toRow] at hs
      cases h1 : toCell q t b' with
      | none => rw [h1] at hs; cases hs
      | some c =>
        rw [h1] at hs
        simp only [Option.map_some, Option.some.injEq] at hs
        subst hs
        exact toCell_gives h1 hm
    | [], hs => cases hs
    | _ :: _ :: _, hs => simp [toRow] at hs
  | .cons t r, l, d, hs, m, hm => by
    cases l with
    | nil => cases hs
    | cons b' l =>
      simp only [toRow] at hs
      cases h1 : toCell q t b' with
      | none => rw [h1] at hs; cases hs
      | some c =>
        cases h2 : toRow q r l with
        | none => rw [h1, h2] at hs; cases hs
        | some d' =>
          rw [h1, h2] at hs
          simp only [Option.some.injEq] at hs
          subst hs
          simp only [List.mem_append] at hm
          rcases hm with hm | hm
          · exact toCell_gives h1 hm
          · exact toRow_gives r h2 m hm

theorem litRows_gives {q : Nat → Ent} {r : Row} : ∀ (l : List TV) {xs : List r.den} {g : List Nat}, litRows q r l = some (xs, g) → ∀ m, m ∈ g → ∃ a, q m = .arr a
  | [], xs, g, hs, m, hm => by
    simp only [litRows, Option.some.injEq, Prod.mk.injEq] at hs
    obtain ⟨_, rfl⟩ := hs
    cases hm
  | .tup _ :: l, xs, g, hs, m, hm => by simp [litRows] at hs
  | .c x :: l, xs, g, hs, m, hm => by
    simp only [litRows] at hs
    cases h1 : toRow q r x.cells with
    | none => rw [h1] at hs; cases hs
    | some d =>
      cases h2 : litRows q r l with
      | none => rw [h1, h2] at hs; cases hs
      | some e =>
        rw [h1, h2] at hs
        simp only [Option.some.injEq, Prod.mk.injEq] at hs
        obtain ⟨_, rfl⟩ := hs
        rcases List.mem_append.1 hm with hm | hm
        · exact toRow_gives r h1 m hm
        · exact litRows_gives l h2 m hm

theorem frz_spec {q : Nat → Ent} (hq : ∀ n, q n ≠ .gone → h[n]? = some (q n)) : ∀ (g : List Nat), (∀ y ∈ frzSets q g, ∃ a, h[y.1]? = some (.arr a) ∧ y.2 = .arr a.frz) ∧ ((frzSets q g).map (·.1)).Nodup ∧ (∀ m a, m ∈ g → q m = .arr a → m ∈ (frzSets q g).map (·.1)) ∧ (∀ y ∈ frzSets q g, y.1 ∈ g)
  | [] => ⟨fun y hy => (by cases hy), List.nodup_nil, fun m a hm => (by cases hm), fun y hy => (by cases hy)⟩
  | n :: l => by
    obtain ⟨h1, h2, h3, h4⟩ := frz_spec hq l
    unfold frzSets
    simp only
    cases hc : ((frzSets q l).map (·.1)).contains n with
    | true =>
      simp only [cond_true]
      refine ⟨h1, h2, fun m a hm hma => ?_, fun y hy => List.mem_cons_of_mem _ (h4 y hy)⟩
      rcases List.mem_cons.1 hm with rfl | hm
      · exact List.contains_iff_mem.1 hc
      · exact h3 m a hm hma
    | false =>
      simp only [cond_false]
      have hc := not_mem_of_contains hc
      cases hn : q n with
      | gone => exact ⟨h1, h2, fun m a hm hma => by rcases List.mem_cons.1 hm with rfl | hm; (rw [hn] at hma; cases hma); exact h3 m a hm hma, fun y hy => List.mem_cons_of_mem _ (h4 y hy)⟩
      | box cs => exact ⟨h1, h2, fun m a hm hma => by rcases List.mem_cons.1 hm with rfl | hm; (rw [hn] at hma; cases hma); exact h3 m a hm hma, fun y hy => List.mem_cons_of_mem _ (h4 y hy)⟩
      | arr a =>
        refine ⟨fun y hy => ?_, by simp only [List.map_cons, List.nodup_cons]; exact ⟨hc, h2⟩, fun m a' hm hma => ?_, fun y hy => ?_⟩
        · rcases List.mem_cons.1 hy with rfl | hy
          · exact ⟨a, by rw [hq n (by rw [hn]; simp), hn], rfl⟩
          · exact h1 y hy
        · rcases List.mem_cons.1 hm with rfl | hm
          · exact List.mem_cons_self
          · exact List.mem_cons_of_mem _ (h3 m a' hm hma)
        · rcases List.mem_cons.1 hy with rfl | hy
          · exact List.mem_cons_self
          · exact List.mem_cons_of_mem _ (h4 y hy)

/-- What was given up is frozen then. -/
theorem gz_frz {q : Nat → Ent} {g : List Nat} (hq : ∀ n, q n ≠ .gone → h[n]? = some (q n)) (hga : ∀ m, m ∈ g → ∃ a, q m = .arr a) {b : Nat} (hz : GZ G g b) : (G.zone b).drop ((frzSets q g).map (·.1)) = .frz := by
  rcases hz with hz | ⟨m, hm, hz⟩
  · rw [hz]; rfl
  · rw [hz]
    obtain ⟨a, ha⟩ := hga m hm
    simp only [Zone.drop, if_pos ((frz_spec hq g).2.2.1 m a hm ha)]

/-- A row of its own is laid, in memory of its own; other rows are frozen. -/
theorem done_newrow {r : Row} {rows : List r.den} {cells : Array Value} {e : TypeId} {fr : Nat × Nat} {cap nm : Nat} {g : List Nat} {q : Nat → Ent} {w' : World} (hh : RelH G w h)
    (hq : ∀ n, q n ≠ .gone → h[n]? = some (q n)) (hga : ∀ m, m ∈ g → ∃ a, q m = .arr a)
    (hheap : w'.heap = (w.alloc (.cells cells e fr)).heap) (ho : w'.os = w.os) (ht : w'.tape = w.tape) (hu : w'.output = w.output)
    (hfr : ∀ i, i < cells.size → ¬ (fr.1 ≤ i ∧ i < fr.2)) (hcl : r ≠ .one (.int .u8) → ¬ (fr.1 ≤ cells.size ∧ cells.size < fr.2)) (hl : rows.length ≤ cap) (hc : cap * r.size ≤ cells.size) (hf : h[nm]? = some .gone) (hp : pars ≤ nm)
    (hrow : ∀ (i : Nat) (x : r.den), rows[i]? = some x → RelRow w (GZ G g) r cells (i * r.size) x) :
    Done pars G w h { val := .c (.v (.ref nm)), sets := (nm, .arr (.mk' true r rows)) :: frzSets q g } (.slice (some ⟨w.heap.size, 0, none⟩) rows.length cap) w' := by
  obtain ⟨f1, f2, _, _⟩ := frz_spec hq g
  have hlt : nm < h.length := (List.getElem?_eq_some_iff.1 hf).1
  have hnF : nm ∉ (frzSets q g).map (·.1) := by
    intro hm
    obtain ⟨y, hy, rfl⟩ := List.mem_map.1 hm
    obtain ⟨a, ha, _⟩ := f1 y hy
    rw [hf] at ha; cases ha
  have hnd : (([(nm, Ent.arr (.mk' true r rows))] ++ frzSets q g).map (·.1)).Nodup := by
    simp only [List.cons_append, List.nil_append, List.map_cons, List.nodup_cons]
    exact ⟨hnF, f2⟩
  have hget : (newHeap h { val := .c (.v (.ref nm)), sets := [(nm, Ent.arr (.mk' true r rows))] ++ frzSets q g })[nm]? = some (.arr (.mk' true r rows)) := by
    unfold newHeap
    exact setAll_mem _ _ (nm, Ent.arr (.mk' true r rows)) (by simp) hnd hlt
  have hold : ∀ b, b < w.heap.size → w'.heap[b]? = w.heap[b]? := fun b hb => by rw [hheap]; exact alloc_old _ _ hb
  let G' : Gh := { G with zone := updF (fun b => (G.zone b).drop ((frzSets q g).map (·.1))) w.heap.size (.top nm), base := updF G.base nm (some ⟨w.heap.size, 0, none⟩), cap := updF G.cap nm cap }
  have hzo : ∀ b, b < w.heap.size → G'.zone b = (G.zone b).drop ((frzSets q g).map (·.1)) := fun b hb => by simp only [G']; rw [updF_ne _ _ (by omega)]
  refine done_fresh (G' := G') (S := [(nm, Ent.arr (.mk' true r rows))]) (F := frzSets q g) hh hnd (by simpa using hf) (by simpa using hp) f1 (by rw [hheap, alloc_size]; omega) ho ht hu hold hzo (fun n hn => ?_)
      (fun b hb vs hv i hi => ?_) (fun n a hm => ?_) (fun tr n e' hm => ?_) (fun _ => ?_)
  · have h1 : n ≠ nm := fun e => hn (by rw [e]; simp)
    simp only [G']
    rw [updF_ne _ _ h1, updF_ne _ _ h1]
    simp
  · have := alloc_thaw w cells e fr hfr b hb vs (by unfold Blk at *; rw [← hheap]; exact hv) i hi
    unfold World.frozen? at *
    rw [hheap]; exact this
  · simp only [List.mem_singleton, Prod.mk.injEq, Ent.arr.injEq] at hm
    rw [hm.2]; rfl
  · simp only [List.mem_singleton, Prod.mk.injEq] at hm
    obtain ⟨rfl, rfl⟩ := hm
    show RelArr _ _ _ _
    refine ⟨⟨rfl, fun _ hr _ ad vs hb hv => ?_⟩, fun hv => (by simp [Arr.mk'] at hv), ?_⟩
    · simp only [G', updF_same, Option.some.injEq] at hb
      subst hb
      obtain ⟨e1, fr1, hv⟩ := hv
      simp only [hheap, alloc_new, Option.some.injEq, Obj.cells.injEq] at hv
      obtain ⟨rfl, rfl, rfl⟩ := hv
      unfold World.frozen?
      simp only [hheap, alloc_new]
      simpa using hcl hr
    simp only [G', updF_same]
    refine ⟨hl, .inr ⟨⟨w.heap.size, 0, none⟩, cells, rfl, rfl, ?_, ?_, by show 0 + _ ≤ _; rw [Nat.zero_add]; exact hc, fun i x hx => ?_⟩⟩
    · simp only [ZArr, Arr.mk', if_true, updF_same]
    · exact ⟨e, fr, by rw [hheap]; exact alloc_new _ _⟩
    · show RelRow _ _ r cells (0 + i * r.size) x
      rw [Nat.zero_add]
      refine RelRow.mono (fun b hb hz => ?_) (fun b hb _ => hold b hb) _ _ _ _ (hrow i x hx)
      have := hzo b hb
      simp only [G'] at this
      rw [this]
      exact gz_frz hq hga hz
  · exact ⟨.mk' true r rows, hget, by simp [G', updF_same, Arr.mk']⟩

/-- ... where it has no element at all: an empty list. -/
theorem shift_row {r : Row} {cs : Array Value} {vs : Array Value} {Z : Nat → Prop} {oo : Nat} {x : r.den} (he : ∀ j, j < r.size → cs[oo + j]? = vs[j]?) (hr : RelRow w Z r vs 0 x) : RelRow w Z r cs oo x :=
  RelRow.alike r (fun j hj => by rw [he j hj, Nat.zero_add]) hr

theorem inOrder_map {α : Type} (f : Nat × Operand → α) : ∀ (l : List (Nat × Operand)) (i : Nat), inOrder i l = true → l.map (fun p => (p.1, f p)) = ((l.map f).zipIdx i).map fun x => (x.2, x.1)
  | [], _, _ => rfl
  | p :: l, i, hi => by
    simp only [inOrder, Bool.and_eq_true] at hi
    obtain ⟨h1, h2⟩ := hi
    have h1 := Nat.eq_of_beq_eq_true h1
    simp only [List.map_cons, List.zipIdx_cons, inOrder_map f l (i + 1) h2, h1]

theorem litRows_rel {q : Nat → Ent} {r : Row} (hh : RelH G w h) (hq : ∀ n, q n ≠ .gone → h[n]? = some (q n)) {ρ : Operand → TV} (hρ : ∀ y, RelTV G w h (ev y) (ρ y)) : ∀ (l : List Operand) {xs : List r.den} {g : List Nat}, litRows q r (l.map ρ) = some (xs, g) →
    xs.length = l.length ∧ ∀ (i : Nat) (x : r.den), xs[i]? = some x → ∃ y, l[i]? = some y ∧ (ev y).cells.size = r.size ∧ RelRow w (GZ G g) r (ev y).cells 0 x
  | [], xs, g, hs => by
    simp only [List.map_nil, litRows, Option.some.injEq, Prod.mk.injEq] at hs
    obtain ⟨rfl, rfl⟩ := hs
    exact ⟨rfl, fun i x hx => by simp at hx⟩
  | y :: l, xs, g, hs => by
    simp only [List.map_cons] at hs
    cases hy : ρ y with
    | tup _ => rw [hy] at hs; simp [litRows] at hs
    | c yv =>
      rw [hy] at hs
      simp only [litRows] at hs
      cases h1 : toRow q r yv.cells with
      | none => rw [h1] at hs; cases hs
      | some d =>
        cases h2 : litRows q r (l.map ρ) with
        | none => rw [h1, h2] at hs; cases hs
        | some e =>
          obtain ⟨ys, g'⟩ := e
          rw [h1, h2] at hs
          simp only [Option.some.injEq, Prod.mk.injEq] at hs
          obtain ⟨rfl, rfl⟩ := hs
          obtain ⟨p1, p2⟩ := litRows_rel hh hq hρ l h2
          have hrel : RelCV G w h (ev y) yv := by have := hρ y; rw [hy] at this; exact this
          have hk : yv.cells.all BV.known = true := by
            rw [List.all_eq_true]
            intro b hb
            exact toRow_known r h1 b hb
          obtain ⟨c1, c2⟩ := cv_cells hk hrel
          obtain ⟨r1, r2⟩ := toRow_rel hh hq r (vs := (ev y).cells) (oo := 0) h1 (fun i b hi => by
            obtain ⟨u, q1, _, q3⟩ := c2 i b hi
            exact ⟨u, by rw [Nat.zero_add]; exact q1, q3⟩)
          refine ⟨by simp [p1], fun i x hx => ?_⟩
          cases i with
          | zero =>
            simp only [List.getElem?_cons_zero, Option.some.injEq] at hx
            subst hx
            exact ⟨y, rfl, by rw [c1, r2], r1.gz fun m hm => by simp [hm]⟩
          | succ i =>
            simp only [List.getElem?_cons_succ] at hx
            obtain ⟨z, q1, q2, q3⟩ := p2 i x hx
            exact ⟨z, by simpa using q1, q2, q3.gz fun m hm => by simp [hm]⟩
where
  toRow_known {q : Nat → Ent} : (r : Row) → {l : List BV} → {d : RowIn r} → toRow q r l = some d → ∀ b, b ∈ l → b.known = true
  | .one t, l, d, hs, b, hb => by
    match l, hs with
    | [b'], hs =>
      simp only [List.mem_singleton] at hb
      subst hb
      simp only [toRow] at hs
      cases h1 : toCell q t b with
      | none => rw [h1] at hs; cases hs
      | some c => exact toCell_known h1
    | [], hs => cases hb
    | _ :: _ :: _, hs => simp [toRow] at hs
  | .cons t r, l, d, hs, b, hb => by
    cases l with
    | nil => cases hb
    | cons b' l =>
      simp only [toRow] at hs
      cases h1 : toCell q t b' with
      | none => rw [h1] at hs; cases hs
      | some c =>
        cases h2 : toRow q r l with
        | none => rw [h1, h2] at hs; cases hs
        | some d' =>
          rcases List.mem_cons.1 hb with rfl | hb
          · exact toCell_known h1
          · exact toRow_known r h2 b hb
  toCell_known {q : Nat → Ent} {t : Ty} {b : BV} {c : CellIn t} (hs : toCell q t b = some c) : b.known = true := by
    cases b <;> first | rfl | (cases t <;> simp [toCell, heldOf] at hs)

theorem zeroSz_spec {e : TypeId} {n : Nat} (hz : zeroSz P e n = true) : ∃ i z, P.info? e = some i ∧ i.zero = some z ∧ z.cells.size = n ∧ i.size = n := by
  unfold zeroSz at hz
  cases hi : P.info? e with
  | none => rw [hi] at hz; cases hz
  | some i =>
    rw [hi] at hz
    simp only [Option.bind_some] at hz
    cases hq : i.zero with
    | none => rw [hq] at hz; cases hz
    | some z =>
      rw [hq] at hz
      simp only [Bool.and_eq_true] at hz
      refine ⟨i, z, rfl, hq, Nat.eq_of_beq_eq_true hz.1, ?_⟩
      have := Nat.eq_of_beq_eq_true hz.2
      rw [← this]; simp [Program.cellsOf, hi]

theorem nz_mul {a b : Nat} (ha : 0 < a) (hb : 0 < b) : ¬ a * b = 0 := by
  have := Nat.mul_pos ha hb; omega

theorem op_buildSlice {t : TypeId} {len nm : Nat} {parts : Array (Nat × Operand)} {q : Nat → Ent} {g : Bool} {δ : Delta} {ρ : Operand → TV} (ho : o.op = .buildSlice t len parts) (hh : RelH G w h)
    (hq : ∀ n, q n ≠ .gone → h[n]? = some (q n)) (hρ : ∀ y, RelTV G w h (ev y) (ρ y)) (hf : h[nm]? = some .gone) (hp : pars ≤ nm) (hs : buildSliceD P nm t len q ρ parts.toList = some (g, δ)) : OpOk P pars G w h ev o δ := by
  unfold buildSliceD at hs
  cases he : elemOfB P t with
  | none => rw [he] at hs; cases hs
  | some e =>
    rw [he] at hs
    simp only [Option.bind_some, Option.getD_some] at hs
    cases hr : rowOf P e with
    | none => rw [hr] at hs; cases hs
    | some r =>
      rw [hr] at hs
      simp only at hs
      cases hc : (inOrder 0 parts.toList && Nat.beq parts.toList.length len && Nat.ble (len * r.size) 16777216 && zeroSz P e r.size) with
      | false => rw [hc] at hs; cases hs
      | true =>
        rw [hc] at hs
        simp only [cond_true] at hs
        simp only [Bool.and_eq_true] at hc
        obtain ⟨⟨⟨k1, k2⟩, k3⟩, k4⟩ := hc
        have k2 := Nat.eq_of_beq_eq_true k2
        have k3 := Nat.le_of_ble_eq_true k3
        obtain ⟨ie, z, i1, i2, i3, i4⟩ := zeroSz_spec k4
        have hl0 : parts.toList.map (fun p => ρ p.2) = (parts.toList.map (·.2)).map ρ := by rw [List.map_map]; rfl
        rw [hl0] at hs
        cases hx : litRows q r ((parts.toList.map (·.2)).map ρ) with
        | none => rw [hx] at hs; cases hs
        | some x =>
          obtain ⟨xs, gs⟩ := x
          rw [hx] at hs
          simp only [Option.some.injEq, Prod.mk.injEq] at hs
          have hga := litRows_gives _ hx
          obtain ⟨rfl, rfl⟩ := hs
          obtain ⟨l1, l2⟩ := litRows_rel hh hq hρ _ hx
          rw [List.length_map, k2] at l1
          have hu := elemOf_some he
          let vals := parts.toList.map fun p => ev p.2
          have hpm : (parts.map fun x => (x.1, ev x.2)).toList = (vals.zipIdx 0).map fun x => (x.2, x.1) := by
            rw [Array.toList_map]
            exact inOrder_map (fun p => ev p.2) parts.toList 0 k1
          have hsz : ∀ v ∈ vals, v.cells.size = r.size := by
            intro v hv
            obtain ⟨i, hi, rfl⟩ := List.getElem_of_mem hv
            have hi' : i < xs.length := by simp only [vals, List.length_map] at hi; omega
            obtain ⟨y, q1, q2, _⟩ := l2 i xs[i] (List.getElem?_eq_getElem hi')
            rw [List.getElem?_map] at q1
            have : vals[i]? = some (ev y) := by
              simp only [vals, List.getElem?_map]
              cases hpi : parts.toList[i]? with
              | none => rw [hpi] at q1; cases q1
              | some p =>
                rw [hpi] at q1
                simp only [Option.map_some, Option.some.injEq] at q1 ⊢
                rw [q1]
            rw [List.getElem?_eq_getElem hi] at this
            simp only [Option.some.injEq] at this
            rw [this]; exact q2
          have hvl : vals.length = len := by simp only [vals, List.length_map]; exact k2
          rcases Nat.eq_zero_or_pos len with h0 | hpos
          · have hx0 : xs = [] := List.length_eq_zero_iff.1 (by omega)
            have hp0 : parts = #[] := by
              have : parts.toList = [] := List.length_eq_zero_iff.1 (by omega)
              exact Array.toList_eq_nil_iff.1 this
            subst h0 hx0 hp0
            refine ⟨.slice (some ⟨w.heap.size, 0, none⟩) 0 0, w.alloc (.cells #[] e), .inl ?_, ?_⟩
            · simp [execOp, ho, Instr.buildSlice, run_underlying hu, run_sizeOf' i1, Instr.fill, newRow]
              congr 2
              exact Array.eq_empty_of_size_eq_zero (by simp)
            · exact done_newrow (rows := []) (cells := #[]) hh hq hga rfl rfl rfl rfl (by intro i hi; simp at hi) (by intro _; simp) (Nat.le_refl _) (by simp) hf hp (fun i x hx => by simp at hx)
          · have hb : 0 < r.size := Row.size_pos r
            have hfill := Go.Great.fill_whole hb vals ((Array.range (len * r.size)).map (z.cells[· % z.cells.size]!)) hsz (by rw [hvl]; simp)
            have hrun := run_buildSlice (P := P) w t e len (parts.map fun x => (x.1, ev x.2)) _ ie z hu i1 i2 (by rw [i4]; omega) (by rw [i4]; exact nz_mul hpos hb) (by rw [hpm, i4]; exact hfill)
            refine ⟨_, _, .inl (by simp only [execOp, ho]; simp only [Sem.run_bind, hrun, Result.andThen_ok]; rfl), ?_⟩
            have hd := done_newrow (pars := pars) (r := r) (rows := xs) (cells := (vals.flatMap fun v => v.cells.toList).toArray) (e := e) (fr := (0, 0)) (cap := len) (nm := nm) (g := gs) (w' := w.alloc (.cells (vals.flatMap fun v => v.cells.toList).toArray e)) hh hq hga rfl rfl rfl rfl
              (by intro i _; simp) (by intro _; simp) (by omega) ?_ hf hp (fun i x hxi => ?_)
            · rw [l1] at hd; exact hd
            · rw [List.size_toArray, List.length_flatMap]
              have : vals.map (fun v => v.cells.toList.length) = List.replicate len r.size := by
                apply List.ext_getElem
                · simp [hvl]
                · intro i a1 a2
                  simp only [List.getElem_map, List.getElem_replicate, Array.length_toList]
                  exact hsz _ (List.getElem_mem _)
              rw [this]; simp
            · obtain ⟨y, q1, q2, q3⟩ := l2 i x hxi
              have hvi : vals[i]? = some (ev y) := by
                simp only [vals]
                rw [List.getElem?_map] at q1 ⊢
                cases hpi : parts.toList[i]? with
                | none => rw [hpi] at q1; cases q1
                | some p =>
                  rw [hpi] at q1
                  simp only [Option.map_some, Option.some.injEq] at q1 ⊢
                  rw [q1]
              refine shift_row (vs := (ev y).cells) (fun j hj => ?_) q3
              rw [List.getElem?_toArray, Go.Great.flat_get hb vals hsz, Nat.mul_comm i, Nat.mul_add_div hb, Nat.div_eq_of_lt hj, Nat.add_zero, hvi, Nat.mul_add_mod, Nat.mod_eq_of_lt hj]
              rfl
end
end Go.Sx

/- What one operation does: structs; rows of zeros; bytes of a text. -/
set_option linter.unusedVariables false
set_option linter.unusedSimpArgs false
namespace Go.Sx

theorem putCells_length : ∀ (l : List BV) (cs : List BV) (off : Nat), (putCells cs off l).length = cs.length
  | [], cs, off => rfl
  | b :: l, cs, off => by rw [putCells, putCells_length l, List.length_set]

theorem putCells_get : ∀ (l : List BV) (cs : List BV) (off k : Nat), off + l.length ≤ cs.length → (putCells cs off l)[k]? = if off ≤ k ∧ k < off + l.length then l[k - off]? else cs[k]?
  | [], cs, off, k, hl => by
    simp only [putCells, List.length_nil, Nat.add_zero]
    rw [if_neg (by omega)]
  | b :: l, cs, off, k, hl => by
    simp only [List.length_cons] at hl
    rw [putCells, putCells_get l _ _ _ (by rw [List.length_set]; omega)]
    by_cases h1 : off + 1 ≤ k ∧ k < off + 1 + l.length
    · rw [if_pos h1, if_pos (by simp only [List.length_cons]; omega)]
      rw [show k - off = (k - (off + 1)) + 1 by omega, List.getElem?_cons_succ]
    · rw [if_neg h1]
      by_cases h2 : k = off
      · subst h2
        rw [List.getElem?_set_self (by omega), if_pos (by simp only [List.length_cons]; omega), Nat.sub_self]; rfl
      · rw [List.getElem?_set_ne (fun e => h2 e.symm), if_neg (by simp only [List.length_cons]; omega)]

/-- Cells, of some kind of relation. -/
def CellsR (R : Value → BV → Prop) (vs : Array Value) (cs : List BV) : Prop := vs.size = cs.length ∧ ∀ (i : Nat) (b : BV), cs[i]? = some b → ∃ u, vs[i]? = some u ∧ u.oneCell' = true ∧ R u b

theorem arr_foldl_set (off : Nat) (us vs : Array Value) : (us.zipIdx.foldl (fun cs (x : Value × Nat) => cs.setIfInBounds (off + x.2) x.1) vs).size = vs.size ∧
    ∀ k, (us.zipIdx.foldl (fun cs (x : Value × Nat) => cs.setIfInBounds (off + x.2) x.1) vs)[k]? = if off ≤ k ∧ k < off + us.size ∧ k < vs.size then us[k - off]? else vs[k]? := by
  have := Go.Great.foldl_set off us.toList 0 vs
  rw [← Array.foldl_toList, Array.toList_zipIdx]
  simpa using this

theorem cellsR_put {R : Value → BV → Prop} {vs us : Array Value} {cs ds : List BV} {off : Nat} (h1 : CellsR R vs cs) (h2 : CellsR R us ds) (hl : off + ds.length ≤ cs.length) :
    CellsR R (us.zipIdx.foldl (fun cs (x : Value × Nat) => cs.setIfInBounds (off + x.2) x.1) vs) (putCells cs off ds) := by
  obtain ⟨s1, g1⟩ := arr_foldl_set off us vs
  refine ⟨by rw [s1, putCells_length, h1.1], fun i b hi => ?_⟩
  rw [putCells_get _ _ _ _ hl] at hi
  rw [g1 i]
  by_cases hc : off ≤ i ∧ i < off + ds.length
  · rw [if_pos hc] at hi
    rw [if_pos ⟨hc.1, by rw [h2.1]; exact hc.2, by rw [h1.1]; omega⟩]
    exact h2.2 _ _ hi
  · rw [if_neg hc] at hi
    rw [if_neg (by rw [h2.1]; omega)]
    exact h1.2 _ _ hi

section
variable {P : Program} {pars : Nat} {G : Gh} {w : World} {h : List Ent} {ev : Operand → Value} {o : Oper}

theorem fill_rel {t : TypeId} {ρ : Operand → TV} {R : Value → BV → Prop} (hρ : ∀ y x, ρ y = .c x → x.cells.all BV.known = true → CellsR R (ev y).cells x.cells) :
    ∀ (parts : List (Nat × Operand)) (vs : Array Value) (cs ds : List BV), CellsR R vs cs → fillD P t ρ parts cs = some ds → ∃ us, Instr.fill (partPlace P t) vs (parts.map fun p => (p.1, ev p.2)) = some us ∧ CellsR R us ds
  | [], vs, cs, ds, hc, hs => by
    simp only [fillD, Option.some.injEq] at hs
    subst hs
    exact ⟨vs, rfl, hc⟩
  | p :: l, vs, cs, ds, hc, hs => by
    simp only [fillD] at hs
    cases hp : partPlace P t p.1 with
    | none => rw [hp] at hs; simp at hs
    | some pl =>
      obtain ⟨off, sz⟩ := pl
      rw [hp] at hs
      cases hx : ρ p.2 with
      | tup _ => rw [hx] at hs; simp at hs
      | c x =>
        rw [hx] at hs
        simp only at hs
        cases hk : (x.cells.all BV.known && Nat.beq x.cells.length sz && Nat.ble (off + x.cells.length) cs.length) with
        | false => rw [hk] at hs; cases hs
        | true =>
          rw [hk] at hs
          simp only [cond_true] at hs
          simp only [Bool.and_eq_true] at hk
          obtain ⟨⟨k1, k2⟩, k3⟩ := hk
          have k2 := Nat.eq_of_beq_eq_true k2
          have k3 := Nat.le_of_ble_eq_true k3
          have hx' := hρ _ _ hx k1
          obtain ⟨us, q1, q2⟩ := fill_rel hρ l _ _ ds (cellsR_put hc hx' k3) hs
          refine ⟨us, ?_, q2⟩
          simp only [List.map_cons, Instr.fill, hp]
          have e1 : (ev p.2).cells.size = sz := by rw [hx'.1, k2]
          have e2 : ¬ (off + (ev p.2).cells.size > vs.size) := by rw [hx'.1, hc.1]; omega
          rw [if_neg (by simp [e1]; rw [← e1]; omega)]
          exact q1

theorem built_of {t : TypeId} {parts : List (Nat × Value)} {i : TypeInfo} {z : Value} {us : Array Value} (hi : P.info? t = some i) (hz : i.zero = some z) (hp : placesOk P t = true) (hf : Instr.fill (partPlace P t) z.cells parts = some us) :
    P.built t parts = some us := by
  unfold Program.built
  unfold placesOk at hp
  cases hu : P.underlying t with
  | none => rw [hu] at hp; cases hp
  | some d =>
    rw [hu] at hp
    cases d <;> simp only [Bool.false_eq_true] at hp
    case array n e =>
      cases he : P.info? e with
      | none => rw [he] at hp; cases hp
      | some ie =>
        simp only [hi, hz, he]
        have : partPlace P t = fun i => some (i * ie.size, ie.size) := by
          funext j
          simp [partPlace, hu, Program.cellsOf, he]
        rw [← this]; exact hf
    case struct fs =>
      simp only [hi, hz]
      have hm : fs.toList.mapM (fun f => (P.info? f.type).map fun i => (f.offset, i.size)) = some (fs.toList.map fun f => (f.offset, P.cellsOf f.type)) := by
        rw [List.all_eq_true] at hp
        clear hu
        generalize fs.toList = l at hp
        induction l with
        | nil => rfl
        | cons f l ih =>
          obtain ⟨inf, hq⟩ := Option.isSome_iff_exists.1 (hp f List.mem_cons_self)
          have ih := ih fun x hx => hp x (List.mem_cons_of_mem _ hx)
          simp [List.mapM_cons, hq, ih, Program.cellsOf]
      rw [hm]
      simp only
      have : partPlace P t = fun x => (fs.toList.map fun f => (f.offset, P.cellsOf f.type)).toArray[x]? := by
        funext j
        simp only [partPlace, hu]
        simp only [List.getElem?_toArray, List.getElem?_map, Array.getElem?_toList]
        cases fs[j]? <;> rfl
      rw [← this]; exact hf

/-- Rows of no element are laid; no memory is. -/
theorem done_virt {S : List (Nat × Ent)} {x : TV} {v : Value} (hh : RelH G w h) (hS : ∀ y ∈ S, h[y.1]? = some .gone ∧ pars ≤ y.1 ∧ ∃ r, y.2 = .arr (.nil r)) (hd : (S.map (·.1)).Nodup)
    (hv : ∀ h', (∀ n r, (n, Ent.arr (.nil r)) ∈ S → h'[n]? = some (.arr (.nil r)) ∧ (G.virt S).base n = none ∧ (G.virt S).cap n = 0) → (∀ v b, RelB G w h v b → RelB (G.virt S) w h' v b) → RelTV (G.virt S) w h' v x) :
    Done pars G w h { val := x, sets := S } v w := by
  have hlt : ∀ y ∈ S, y.1 < h.length := by
    intro y hy
    rcases Nat.lt_or_ge y.1 h.length with h1 | h1
    · exact h1
    · have := (hS y hy).1; rw [List.getElem?_eq_none h1] at this; cases this
  have hget : ∀ y ∈ S, (newHeap h { val := x, sets := S })[y.1]? = some y.2 := fun y hy => setAll_mem _ _ y hy hd (hlt y hy)
  refine done_fresh0 (G' := G.virt S) hh hd (fun y hy => (hS y hy).1) (fun y hy => (hS y hy).2.1) (Nat.le_refl _) rfl rfl rfl (fun _ _ => rfl) (fun _ _ => rfl) (fun n hn => ?_) (fun b hb vs hv => absurd hv.lt (by omega)) (fun n a hm => ?_) (fun _ n e hm => ?_) (fun tr => ?_)
  · have h2 : n ∉ S.map (·.1) := fun hm => by
      obtain ⟨x, hx, hx1⟩ := List.mem_map.1 hm
      exact hn x hx hx1
    simp only [Gh.virt]
    rw [if_neg h2, if_neg h2]
    simp
  · obtain ⟨r, hr⟩ := (hS _ hm).2.2
    simp only [Ent.arr.injEq] at hr
    rw [hr]; rfl
  · obtain ⟨r, hr⟩ := (hS _ hm).2.2
    simp only at hr
    subst hr
    exact relArr_nil (by simp only [Gh.virt]; rw [if_pos (List.mem_map_of_mem (f := (·.1)) hm)])
  · refine hv _ (fun n r hm => ⟨hget (n, _) hm, ?_, ?_⟩) (fun v b hr => relB_same tr hr)
    · simp only [Gh.virt]; rw [if_pos (List.mem_map_of_mem (f := (·.1)) hm)]
    · simp only [Gh.virt]; rw [if_pos (List.mem_map_of_mem (f := (·.1)) hm)]

theorem op_build {t : TypeId} {nm : Nat} {parts : Array (Nat × Operand)} {g : Bool} {δ : Delta} {ρ : Operand → TV} (ho : o.op = .build t parts) (hh : RelH G w h) (hρ : ∀ y, RelTV G w h (ev y) (ρ y))
    (hs : buildD P nm t ρ parts.toList = some (g, δ)) (hf : ∀ m, nm ≤ m → m < nm + ((tysOf P 6 t).getD []).length → h[m]? = some .gone) (hp : pars ≤ nm) : OpOk P pars G w h ev o δ := by
  unfold buildD at hs
  cases ht : tysOf P 6 t with
  | none => rw [ht] at hs; cases hs
  | some tys =>
    rw [ht] at hs hf
    simp only [Option.getD_some] at hs hf
    cases hc : (!zeroOk P t tys || !placesOk P t) with
    | true => rw [hc] at hs; cases hs
    | false =>
      rw [hc] at hs
      simp only [cond_false] at hs
      simp only [Bool.or_eq_false_iff, Bool.not_eq_false'] at hc
      obtain ⟨hz, hpl⟩ := hc
      cases hfd : fillD P t ρ parts.toList (zeroBV nm tys).1 with
      | none => rw [hfd] at hs; cases hs
      | some ds =>
        rw [hfd] at hs
        simp only [Option.some.injEq, Prod.mk.injEq] at hs
        obtain ⟨rfl, rfl⟩ := hs
        obtain ⟨i, z, hi, hzi, hzb⟩ := zeroOk_spec hz
        obtain ⟨n1, n2, n3⟩ := zeroBV_names tys nm
        obtain ⟨z1, z2⟩ := zeroBV_rel tys nm _ hzb
        generalize hbs : (zeroBV nm tys).1 = bs at *
        generalize hS : (zeroBV nm tys).2 = S at *
        let R : Value → BV → Prop := fun u b => ZeroRel S u b ∨ RelB G w h u b
        have hz0 : CellsR R z.cells bs := ⟨by rw [n1, ← z1]; simp, fun i b hib => by
          obtain ⟨u, p1, p2⟩ := z2 i b hib
          exact ⟨u, by simpa using p1, p2.1, .inl p2⟩⟩
        obtain ⟨us, q1, q2⟩ := fill_rel (ev := ev) (ρ := ρ) (R := R) (fun y x hyx hk => by
          have := hρ y
          rw [hyx] at this
          obtain ⟨c1, c2⟩ := cv_cells hk this
          exact ⟨c1, fun i b hib => by
            obtain ⟨u, p1, p2, p3⟩ := c2 i b hib
            exact ⟨u, p1, p2, .inr p3⟩⟩) parts.toList z.cells bs ds hz0 hfd
        have hrun := run_build (P := P) w t (parts.map fun x => (x.1, ev x.2)) us (by rw [Array.toList_map]; exact built_of hi hzi hpl q1)
        refine ⟨.agg us, w, .inl (by simp only [execOp, ho]; simp only [Sem.run_bind, hrun, Result.andThen_ok]; rfl), ?_⟩
        refine done_virt hh (fun y hy => ?_) n3 (fun h' hv hb => ?_)
        · obtain ⟨p1, p2, p3⟩ := n2 y hy
          exact ⟨hf y.1 p1 p2, by omega, p3⟩
        · refine ⟨us, rfl, q2.1, fun i b hib => ?_⟩
          obtain ⟨u, p1, p2, p3⟩ := q2.2 i b hib
          refine ⟨u, p1, p2, ?_⟩
          rcases p3 with p3 | p3
          · exact zeroRel_relB p3 hv
          · exact hb _ _ p3
end
end Go.Sx

/- What one operation does: rows of zeros; bytes of a text. -/
set_option linter.unusedVariables false
set_option linter.unusedSimpArgs false
namespace Go.Sx

theorem zerosB_head {t : Ty} {l : List Ty} {us : List Value} (hz : zerosB (t :: l) us = true) : ∃ u us', us = u :: us' ∧ zerosB l us' = true ∧ ∀ (w : World) (Z : Nat → Prop), RelCell w Z t u t.zero := by
  cases us with
  | nil => cases t <;> simp [zerosB] at hz
  | cons u us =>
    refine ⟨u, us, rfl, ?_⟩
    cases t with
    | int k =>
      cases u <;> simp only [zerosB, Bool.false_eq_true, Bool.and_eq_true, decide_eq_true_eq] at hz
      obtain ⟨⟨rfl, rfl⟩, hz⟩ := hz
      exact ⟨hz, fun w Z => by simp only [RelCell, Ty.zero]⟩
    | bool =>
      cases u <;> simp only [zerosB, Bool.false_eq_true, Bool.and_eq_true, Bool.not_eq_true'] at hz
      obtain ⟨rfl, hz⟩ := hz
      exact ⟨hz, fun w Z => by simp only [RelCell, Ty.zero]⟩
    | str =>
      cases u <;> simp only [zerosB, Bool.false_eq_true, Bool.and_eq_true] at hz
      rename_i s
      obtain ⟨h0, hz⟩ := hz
      have : s = ByteArray.empty := by
        have := Nat.eq_of_beq_eq_true h0
        obtain ⟨d⟩ := s
        have : d = #[] := Array.eq_empty_of_size_eq_zero this
        rw [this]; rfl
      subst this
      exact ⟨hz, fun w Z => by simp only [RelCell, Ty.zero]⟩
    | sl r =>
      cases u <;> try (simp [zerosB] at hz; done)
      rename_i a n c
      have hz' : a = none ∧ n = 0 ∧ c = 0 ∧ zerosB l us = true := by
        cases a with
        | some a => simp [zerosB] at hz
        | none =>
          cases n with
          | succ n => simp [zerosB] at hz
          | zero =>
            cases c with
            | succ c => simp [zerosB] at hz
            | zero => exact ⟨rfl, rfl, rfl, by simpa [zerosB] using hz⟩
      obtain ⟨rfl, rfl, rfl, hz⟩ := hz'
      exact ⟨hz, fun w Z => relCell_sl.2 ⟨none, 0, rfl, Nat.zero_le _, .inl rfl⟩⟩

theorem zero_row {w : World} {Z : Nat → Prop} : ∀ (tys : List Ty) {r : Row} {us : List Value} {vs : Array Value} {oo : Nat}, mkRow tys = some r → zerosB tys us = true → (∀ (j : Nat) (u : Value), us[j]? = some u → vs[oo + j]? = some u) → RelRow w Z r vs oo r.zero ∧ us.length = r.size
  | [], r, us, vs, oo, hm, _, _ => by cases hm
  | [t], r, us, vs, oo, hm, hz, hv => by
    simp only [mkRow, Option.some.injEq] at hm
    subst hm
    obtain ⟨u, us', rfl, hz', hr⟩ := zerosB_head hz
    have : us' = [] := by cases us' with | nil => rfl | cons a b => simp [zerosB] at hz'
    subst this
    refine ⟨?_, rfl⟩
    simp only [RelRow, Row.zero]
    exact ⟨u, hv 0 u rfl, hr w Z⟩
  | t :: t' :: l, r, us, vs, oo, hm, hz, hv => by
    simp only [mkRow] at hm
    cases hq : mkRow (t' :: l) with
    | none => rw [hq] at hm; cases hm
    | some r' =>
      rw [hq] at hm
      simp only [Option.map_some, Option.some.injEq] at hm
      subst hm
      obtain ⟨u, us', rfl, hz', hr⟩ := zerosB_head hz
      obtain ⟨h1, h2⟩ := zero_row (w := w) (Z := Z) (t' :: l) (vs := vs) (oo := oo + 1) hq hz' (fun j x hj => by
        have := hv (j + 1) x (by simpa using hj)
        rwa [show oo + (j + 1) = oo + 1 + j by omega] at this)
      refine ⟨?_, by simp [Row.size, h2]⟩
      simp only [RelRow, Row.zero]
      exact ⟨⟨u, hv 0 u rfl, hr w Z⟩, h1⟩

section
variable {P : Program} {pars : Nat} {G : Gh} {w : World} {h : List Ent} {ev : Operand → Value} {o : Oper}

theorem elim_spec {e : TypeId} {i : TypeInfo} (hi : P.info? e = some i) {n : Nat} (hb : Nat.ble ((P.info? e).elim 1000000 (·.bytes)) n = true) : i.bytes ≤ n := by
  rw [hi] at hb
  exact Nat.le_of_ble_eq_true hb

theorem op_makeSlice {t : TypeId} {x y : Operand} {nm : Nat} {g : Bool} {δ : Delta} {xv yv : TV} (ho : o.op = .makeSlice t x y) (hh : RelH G w h) (hx : RelTV G w h (ev x) xv) (hy : RelTV G w h (ev y) yv)
    (hs : makeSliceD P nm t xv yv = some (g, δ)) (hg : g = true) (hf : h[nm]? = some .gone) (hp : pars ≤ nm) : OpOk P pars G w h ev o δ := by
  subst hg
  unfold makeSliceD at hs
  split at hs
  · rename_i k l k' c
    have hx := bv_int hx
    have hy := bv_int hy
    cases he : elemOfB P t with
    | none => rw [he] at hs; cases hs
    | some e =>
      rw [he] at hs
      simp only at hs
      cases ht : tysOf P 6 e with
      | none => rw [ht] at hs; cases hs
      | some tys =>
        rw [ht] at hs
        simp only at hs
        cases hr : mkRow tys with
        | none => rw [hr] at hs; cases hs
        | some r =>
          rw [hr] at hs
          simp only at hs
          cases hc : (zeroOk P e tys && Nat.ble ((P.info? e).elim 1000000 (·.bytes)) 1024 && Nat.beq r.size (P.cellsOf e)) with
          | false => rw [hc] at hs; cases hs
          | true =>
            rw [hc] at hs
            simp only [cond_true, Option.some.injEq, Prod.mk.injEq] at hs
            obtain ⟨hgd, rfl⟩ := hs
            simp only [Bool.and_eq_true, decide_eq_true_eq, beq_iff_eq] at hgd hc
            obtain ⟨g1, g2, rfl⟩ := hgd
            obtain ⟨⟨c1, c2⟩, c3⟩ := hc
            obtain ⟨i, z, i1, i2, i3⟩ := zeroOk_spec c1
            have hbytes := elim_spec i1 c2
            have hsz : i.size = r.size := by
              rw [Nat.eq_of_beq_eq_true c3]; simp [Program.cellsOf, i1]
            have hu := elemOf_some he
            have g2' : c ≤ 4294967296 := g2
            have hmul : (i.bytes : Int) * c ≤ 281474976710656 := by
              have h1 : (i.bytes : Int) ≤ 1024 := by omega
              have h2 : (i.bytes : Int) * c ≤ 1024 * c := Int.mul_le_mul_of_nonneg_right h1 g1
              omega
            have hrun := run_make (P := P) w t e i z hu i1 i2 k k' c c g1 (Int.le_refl _) hmul (by omega)
            obtain ⟨zr1, zr2⟩ := zero_row (w := w) (Z := GZ G []) tys (us := z.cells.toList) (vs := z.cells) (oo := 0) hr i3 (fun j u hj => by simpa using hj)
            have zsz : z.cells.size = r.size := by rw [← zr2]; simp
            have hpos := Row.size_pos r
            refine ⟨_, _, .inl (by simp only [execOp, ho, hx, hy]; simp only [Sem.run_bind, hrun, Result.andThen_ok]; rfl), ?_⟩
            have hd := done_newrow (pars := pars) (r := r) (rows := List.replicate c.toNat r.zero) (cells := madeCells z.cells (c.toNat * i.size)) (e := e) (fr := (0, 0)) (cap := c.toNat) (nm := nm) (g := []) (q := fun _ => .gone) (w' := w.alloc (.cells (madeCells z.cells (c.toNat * i.size)) e)) hh (fun _ e => absurd rfl e) (fun m hm => by cases hm) rfl rfl rfl rfl
              (by intro i _; simp) (by intro _; simp) (by simp) (by rw [size_madeCells, hsz]; exact Nat.le_refl _) hf hp (fun j x hj => ?_)
            · simpa [frzSets] using hd
            · have hj' : j < c.toNat ∧ x = r.zero := by
                rw [List.getElem?_replicate] at hj
                split at hj
                · rename_i hlt; exact ⟨hlt, by simpa using hj.symm⟩
                · cases hj
              obtain ⟨hlt, rfl⟩ := hj'
              refine shift_row (fun m hm => ?_) zr1
              have hlt2 : j * r.size + m < c.toNat * i.size := by
                rw [hsz]
                have : (j + 1) * r.size ≤ c.toNat * r.size := Nat.mul_le_mul_right _ hlt
                rw [Nat.add_mul, Nat.one_mul] at this
                omega
              unfold madeCells
              rw [Array.getElem?_map, Array.getElem?_range]
              rw [if_pos hlt2]
              simp only [Option.map_some]
              rw [zsz, Nat.mul_comm j, Nat.mul_add_mod, Nat.mod_eq_of_lt hm]
              rw [Array.getElem?_eq_getElem (by omega), getElem!_pos z.cells m (by omega)]
  · cases hs

theorem bytesI_length (s : ByteArray) : (bytesI s).length = s.size := by simp [bytesI]

theorem op_bytes {src dst e : TypeId} {x : Operand} {s : ByteArray} {nm : Nat} (ho : o.op = .convert src dst x) (hh : RelH G w h) (hx : ev x = .string s) (hsrc : P.underlying src = some .string) (hd : P.underlying dst = some (.slice e)) (he : P.underlying e = some (.int .u8))
    (hf : h[nm]? = some .gone) (hp : pars ≤ nm) : OpOk P pars G w h ev o { val := .c (.v (.ref nm)), sets := [(nm, .arr (.mk' true (.one (.int .u8)) (bytesI s)))] } := by
  have hrun := run_bytes_of_string (P := P) w src dst e s hsrc hd he
  refine ⟨_, _, .inl (by simp only [execOp, ho, hx]; simp only [Sem.run_bind, hrun, Result.andThen_ok]; rfl), ?_⟩
  have hcap : s.size ≤ grownCap w s.size 0 e := by
    exact grownCap_ge w s.size 0 e
  have hsz : (bytesRow s (grownCap w s.size 0 e)).size = grownCap w s.size 0 e := by
    unfold bytesRow
    rw [Array.size_append, Array.size_map, Array.size_replicate]
    have : s.data.size = s.size := rfl
    omega
  have hl := bytesI_length s
  have hd := done_newrow (pars := pars) (r := .one (.int .u8)) (rows := bytesI s) (cells := bytesRow s (grownCap w s.size 0 e)) (e := e) (fr := ((bytesRow s (grownCap w s.size 0 e)).size, (bytesRow s (grownCap w s.size 0 e)).size + 1)) (cap := grownCap w s.size 0 e) (nm := nm) (g := []) (q := fun _ => .gone) (w' := w.drew.alloc (.cells (bytesRow s (grownCap w s.size 0 e)) e ((bytesRow s (grownCap w s.size 0 e)).size, (bytesRow s (grownCap w s.size 0 e)).size + 1))) hh (fun _ e => absurd rfl e) (fun m hm => by cases hm) rfl rfl rfl rfl
    (by intro i hi; simp only; omega) (fun h => absurd rfl h) (Nat.le_trans (Nat.le_of_eq hl) hcap) (by simp only [Row.size]; rw [hsz]; omega) hf hp (fun j (y : Int) hj => ?_)
  · have key : ∀ n, List.length (bytesI s : List (Row.one (.int .u8)).den) = n → Done pars G w h _ (.slice (some ⟨w.heap.size, 0, none⟩) n (grownCap w s.size 0 e)) _ := fun n hn => by subst hn; exact hd
    exact key _ hl
  · have hj : (bytesI s)[j]? = some y := hj
    simp only [RelRow, RelCell, Row.size, Nat.mul_one]
    refine ⟨_, ?_, rfl⟩
    unfold bytesI at hj
    rw [List.getElem?_map] at hj
    cases hq : s.data.toList[j]? with
    | none => rw [hq] at hj; cases hj
    | some b =>
      rw [hq] at hj
      simp only [Option.map_some, Option.some.injEq] at hj
      subst hj
      have hlt : j < s.data.size := by
        have := (List.getElem?_eq_some_iff.1 hq).1
        simpa using this
      unfold bytesRow
      rw [Array.getElem?_append_left (by rw [Array.size_map]; exact hlt), Array.getElem?_map]
      rw [Array.getElem?_toList] at hq
      rw [hq]; rfl
end
end Go.Sx
