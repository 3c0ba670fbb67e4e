/- A small machine without memory's chances: what a function's code does on values that own their rows. No conditions. -/
import Derived.Calls
import Derived.Orders
import Derived.Laws.Sem
import Derived.Laws.BytesArg
import Derived.Shelf.Unicode.DecodeSlow
import Derived.Below
import Derived.Laws.OwnMore
import Derived.Laws.Rows
import Derived.Maps.AppendAt
import Derived.Lib.AppendStr
import Derived.Lib.ConvBytes
import Derived.WalkKit
import Derived.Laws.Cells
import Derived.Deep.MidRow
import Derived.Laws.StructEq
import Derived.ChangeKeysEq
import Derived.Laws.Slices
import Derived.Laws.Strings
import Derived.Laws.MakeOwn
set_option linter.unusedVariables false
set_option linter.unusedSimpArgs false
set_option linter.unusedSectionVars false
namespace Go.Proofs.YtchohkelpjfpcaaDoor.AX
open Go

inductive T (El : Nat → Type) where
  | lit (v : Value)
  | row (k : Nat) (l : List (El k))

/-- What stands in the cells of a type that can be compared. -/
inductive CK where
  | int (k : IntKind)
  | bool
  | str

/-- Cells of these kinds. -/
def CKV : CK → Value → Prop
  | .int k, .int k' _ => k' = k
  | .bool, .bool _ => True
  | .str, .string _ => True
  | _, _ => False
def KOk : List CK → List Value → Prop
  | [], [] => True
  | c :: cs, v :: vs => CKV c v ∧ KOk cs vs
  | _, _ => False

/-- The kinds of rows that a program has: an element's type in Lean, its Go type, its cells; 'mp': the kind stands for a map's entries (the key's cells; is the key made of parts, is the value); 'byt': its elements are bytes. -/
structure Uni where
  El : Nat → Type
  dfl : (k : Nat) → El k
  ty : Nat → TypeId
  sz : Nat → Nat
  nest : Nat → Bool
  mp : Nat → Option (List CK × Bool × Bool)
  byt : Nat → Bool
  enc : (k : Nat) → El k → List (T El)
  dec : (k : Nat) → List (T El) → Option (El k)

abbrev Row (U : Uni) := (k : Nat) × List (U.El k)

inductive SV where
  | lit (v : Value)
  | slc (id ver : Nat) (path : List (Int × Nat))
  | win (id ver : Nat) (path : List (Int × Nat)) (off len : Int)
  | ptr (id ver : Nat) (path : List (Int × Nat)) (i : Int) (c : Nat)
  | agg (cs : List SV)
  | tup (cs : List SV)
  | fn (f : FuncId) (caps : List SV)
  | mref (id : Nat)
  | when (tags : List (Nat × Bool)) (g : Bool) (v : SV)
  | dead

inductive Chunk (U : Uni) where
  | fresh
  | gone
  | row (own : Bool) (ver : Nat) (k : Nat) (l : List (U.El k))
  | holed (ver : Nat) (k : Nat) (l : List (U.El k)) (i : Int) (c : Nat)
  | box (ty : TypeId) (cs : List SV)
  | mp (k : Nat) (l : List (U.El k))

inductive DV (U : Uni) where
  | val (v : Value)
  | row (k : Nat) (l : List (U.El k))
  | agg (cs : List (DV U))

def look {α : Type} (d : α) : List (Nat × α) → Nat → α
  | [], _ => d
  | (j, x) :: r, i => bif Nat.beq j i then x else look d r i

structure St (U : Uni) where
  slots : List (Nat × SV)
  chunks : List (Nat × Chunk U)

def St.slot {U : Uni} (s : St U) (i : Nat) : SV := look .dead s.slots i
def St.chunk {U : Uni} (s : St U) (i : Nat) : Chunk U := look .fresh s.chunks i

structure Eff (U : Uni) where
  dst : SV
  ch : List (Nat × Chunk U)

def St.put {U : Uni} (s : St U) (d : Option Nat) (e : Eff U) : St U :=
  ⟨match d with | some i => (i, e.dst) :: s.slots | none => s.slots, e.ch ++ s.chunks⟩

inductive Out (U : Uni) where
  | ret (e : Eff U)
  | need (b : Bool) (o : Out U)
  | ite (b : Bool) (o1 o2 : Out U)
  | call (f : FuncId) (ds : List (DV U)) (k : DV U → List (DV U) → Option (Eff U))

/-- A reader of slots and chunks: what it reads is seen. -/
inductive Rd (U : Uni) (α : Type) where
  | ret (a : α)
  | slot (i : Nat) (f : SV → Rd U α)
  | chunk (i : Nat) (f : Chunk U → Rd U α)
  | fail

def Rd.bind {U : Uni} {α β : Type} : Rd U α → (α → Rd U β) → Rd U β
  | .ret a, g => g a
  | .slot i f, g => .slot i fun v => (f v).bind g
  | .chunk i f, g => .chunk i fun v => (f v).bind g
  | .fail, _ => .fail

instance {U : Uni} : Monad (Rd U) where
  pure := Rd.ret
  bind := Rd.bind

def Rd.of {U : Uni} {α : Type} : Option α → Rd U α
  | some a => .ret a
  | none => .fail

def Rd.run {U : Uni} {α : Type} (s : St U) : Rd U α → Option α
  | .ret a => some a
  | .slot i f => (f (s.slot i)).run s
  | .chunk i f => (f (s.chunk i)).run s
  | .fail => none

def Rd.keysS {U : Uni} {α : Type} (s : St U) : Rd U α → List Nat
  | .ret _ => []
  | .slot i f => i :: (f (s.slot i)).keysS s
  | .chunk i f => (f (s.chunk i)).keysS s
  | .fail => []
def Rd.keysC {U : Uni} {α : Type} (s : St U) : Rd U α → List Nat
  | .ret _ => []
  | .slot i f => (f (s.slot i)).keysC s
  | .chunk i f => i :: (f (s.chunk i)).keysC s
  | .fail => []

end Go.Proofs.YtchohkelpjfpcaaDoor.AX

/- What each operation does in the small machine. No conditions. -/
namespace Go.Proofs.YtchohkelpjfpcaaDoor.AX
open Go

inductive Ty where
  | int (k : IntKind)
  | bool
  | str
  | slice (k : Nat)
  | agg (fs : List (Nat × Nat × Bool))
  | map (k : Nat)
  | arr (n m : Nat) (g : Bool)
  | other

/-- The program's types as the small machine sees them: 'agg' are structs and arrays, with each field's place and size. -/
structure Lay where
  size : Nat
  agg : Bool
  zero : List Value
structure Tab where
  ty : TypeId → Ty
  lay : TypeId → Option Lay
  cmp : TypeId → Option (List CK)

/-- How a parameter is handed on: a number or text, a row (mode 0: read, 1: may be written, 2: handed over), a row that is read and that results may share, parts, a box behind a pointer, a row's element behind a pointer (with its whole row). -/
inductive PF where
  | sc
  | row (k : Nat) (mode : Nat)
  | ro (k : Nat)
  | agg (fs : List PF)
  | box (ty : TypeId) (cs : List PF)
  | elem (k : Nat)

/-- 'same j c': what argument j has in its cell c. -/
inductive RF where
  | sc
  | row (k : Nat)
  | same (j c : Nat)
  | agg (fs : List RF)
  | box (ty : TypeId) (cs : List RF)

def most : Nat := 274877906944

section
variable {U : Uni}

def rdS (i : Nat) : Rd U SV := .slot i .ret
def rdC (i : Nat) : Rd U (Chunk U) := .chunk i .ret

def subTags (a b : List (Nat × Bool)) : Bool := a.all fun x => b.any fun y => Nat.beq x.1 y.1 && (x.2 == y.2)

def strip (tags : List (Nat × Bool)) : SV → Option SV
  | .when t _ v => bif !tags.isEmpty && subTags t tags then some v else none
  | v => some v

def opd (tags : List (Nat × Bool)) : Operand → Rd U SV
  | .tmp t => .slot t fun v => Rd.of (strip tags v)
  | .const v => .ret (.lit v)
  | .func f => .ret (.fn f [])
  | .global _ => .fail

def opds (tags : List (Nat × Bool)) : List Operand → Rd U (List SV)
  | [] => .ret []
  | x :: r => (opd tags x).bind fun v => (opds tags r).bind fun vs => .ret (v :: vs)

def rd (r : Row U) (i : Int) : U.El r.1 := r.2.getD i.toNat (U.dfl r.1)

def followR : Row U → List (Int × Nat) → Option (Row U)
  | r, [] => some r
  | r, (i, c) :: p => match (U.enc r.1 (rd r i))[c]? with
    | some (.row k l) => followR ⟨k, l⟩ p
    | _ => none

def toSV (id ver : Nat) (path : List (Int × Nat)) (i : Int) : List (T U.El) → Nat → List SV
  | [], _ => []
  | .lit v :: r, c => .lit v :: toSV id ver path i r (c + 1)
  | .row _ _ :: r, c => .slc id ver (path ++ [(i, c)]) :: toSV id ver path i r (c + 1)

def rowIn (ver : Nat) (path : List (Int × Nat)) (v : Nat) (r : Row U) : Option (Row U) :=
  match path with
  | [] => some r
  | p => bif Nat.beq v ver then followR r p else none

def getRow (id ver : Nat) (path : List (Int × Nat)) : Rd U (Row U) :=
  .chunk id fun
    | .row _ v k l => Rd.of (rowIn ver path v ⟨k, l⟩)
    | _ => .fail

def rowSV (k : Nat) : SV → Rd U (Row U)
  | .lit (.slice none 0 0) => .ret ⟨k, []⟩
  | .slc id ver p => getRow id ver p
  | .win id ver p off len => (getRow id ver p).bind fun r => .ret ⟨r.1, (r.2.drop off.toNat).take len.toNat⟩
  | _ => .fail

/-- A slice's length, where its elements are of kind k. -/
def lenSV (k : Nat) : SV → Rd U Int
  | .lit (.slice none 0 0) => .ret 0
  | .slc id ver p => (getRow (U := U) id ver p).bind fun r => bif Nat.beq r.1 k then .ret r.2.length else .fail
  | .win id ver p _ len => (getRow (U := U) id ver p).bind fun r => bif Nat.beq r.1 k then .ret len else .fail
  | _ => .fail

def cut {α : Type} (c n : Nat) (l : List α) : Option (List α) :=
  bif Nat.ble (c + n) l.length then some ((l.drop c).take n) else none

def loadN (id ver : Nat) (path : List (Int × Nat)) (i : Int) (c n : Nat) : Rd U (List SV) :=
  .chunk id fun
    | .box _ cs => match path with
      | [] => Rd.of (cut c n cs)
      | _ => .fail
    | .row _ v k l => match rowIn ver path v ⟨k, l⟩ with
      | some r => Rd.of (cut c n (toSV id v path i (U.enc r.1 (rd r i)) 0))
      | none => .fail
    | _ => .fail

def cellLike : SV → Bool
  | .lit v => v.oneCell'
  | .slc _ _ _ => true
  | .win _ _ _ _ _ => true
  | .ptr _ _ _ _ _ => true
  | .fn _ _ => true
  | _ => false

def setAt {α : Type} : List α → Nat → List α → Option (List α)
  | l, 0, [] => some l
  | _ :: l, 0, y :: ys => (setAt l 0 ys).map (y :: ·)
  | x :: l, c + 1, ys => (setAt l c ys).map (x :: ·)
  | [], _, _ => none

/-- A value as a row's cell; the chunk that goes with it. -/
def moveIn (t : T U.El) (s : SV) : Rd U (T U.El × List Nat) :=
  match t, s with
  | .row k _, .lit (.slice none 0 0) => .ret (.row k [], [])
  | .row _ _, .slc id _ [] => .chunk id fun
    | .row true _ k l => .ret (.row k l, [id])
    | _ => .fail
  | .lit _, .lit v => .ret (.lit v, [])
  | _, _ => .fail

def moveAll : List (T U.El) → List SV → Rd U (List (T U.El) × List Nat)
  | [], [] => .ret ([], [])
  | t :: ts, s :: ss => (moveIn t s).bind fun x => (moveAll ts ss).bind fun y => .ret (x.1 :: y.1, x.2 ++ y.2)
  | _, _ => .fail

def distinct : List Nat → Bool
  | [] => true
  | x :: r => (r.all fun y => !Nat.beq x y) && distinct r

def goneAll (l : List Nat) : List (Nat × Chunk U) := l.map fun i => (i, .gone)

def cellsOf : SV → List SV
  | .agg cs => cs
  | v => [v]

def litC : SV → Option Value
  | .lit v => some v
  | _ => none
def litCs : List SV → Option (List Value)
  | [] => some []
  | x :: r => (litC x).bind fun v => (litCs r).bind fun vs => some (v :: vs)
def storeN (id ver : Nat) (path : List (Int × Nat)) (i : Int) (c : Nat) (vals : List SV) : Rd U (Option Bool × List (Nat × Chunk U)) :=
  .chunk id fun
    | .box ty cs => match path with
      | [] => bif vals.all cellLike then (Rd.of (setAt cs c vals)).bind fun cs' => .ret (none, [(id, .box ty cs')]) else .fail
      | _ => .fail
    | .row true v k l => match path with
      | [] =>
        let es := U.enc k (rd (U := U) ⟨k, l⟩ i)
        (Rd.of (cut c vals.length es)).bind fun mid => (moveAll mid vals).bind fun m =>
        bif distinct (id :: m.2) then
          (Rd.of ((setAt es c m.1).bind (U.dec k))).bind fun x => .ret (none, (id, .row true (v + 1) k (l.set i.toNat x)) :: goneAll m.2)
        else .fail
      | (i1, c1) :: [] => bif Nat.beq ver v then
          match (U.enc k (rd (U := U) ⟨k, l⟩ i1))[c1]? with
          | some (.row k' l') => (Rd.of (litCs vals)).bind fun vs =>
            (Rd.of ((setAt (U.enc k' (rd (U := U) ⟨k', l'⟩ i)) c (vs.map .lit)).bind (U.dec k'))).bind fun x =>
            (Rd.of (U.dec k ((U.enc k (rd (U := U) ⟨k, l⟩ i1)).set c1 (.row k' (l'.set i.toNat x))))).bind fun y =>
            .ret (none, [(id, .row true (v + 1) k (l.set i1.toNat y))])
          | _ => .fail
        else .fail
      | _ => .fail
    | .holed v k l i0 c0 => match path with
      | [] =>
        let es := U.enc k (rd (U := U) ⟨k, l⟩ i0)
        bif Nat.beq c c0 && Nat.beq vals.length 1 then
        (Rd.of (cut c 1 es)).bind fun mid => (moveAll mid vals).bind fun m =>
        bif distinct (id :: m.2) then
          (Rd.of ((setAt es c m.1).bind (U.dec k))).bind fun x => .ret (some (decide (i = i0)), (id, .row true (v + 1) k (l.set i0.toNat x)) :: goneAll m.2)
        else .fail
        else .fail
      | _ => .fail
    | _ => .fail

def kindEq : IntKind → IntKind → Bool
  | .i8, .i8 | .i16, .i16 | .i32, .i32 | .i64, .i64 | .u8, .u8 | .u16, .u16 | .u32, .u32 | .u64, .u64 => true
  | _, _ => false

def intBin (op : BinOp) (k : IntKind) (a b : Int) : Option (Option Bool × SV) :=
  match op with
  | .add => some (none, .lit (.int k (k.wrap (a + b))))
  | .sub => some (none, .lit (.int k (k.wrap (a - b))))
  | .mul => some (none, .lit (.int k (k.wrap (a * b))))
  | .quo => some (some (!decide (b = 0)), .lit (.int k (k.wrap (a.tdiv b))))
  | .rem => some (some (!decide (b = 0)), .lit (.int k (a.tmod b)))
  | .eql => some (none, .lit (.bool (a == b)))
  | .neq => some (none, .lit (.bool (a != b)))
  | .lss => some (none, .lit (.bool (decide (a < b))))
  | .leq => some (none, .lit (.bool (decide (a ≤ b))))
  | .gtr => some (none, .lit (.bool (decide (a > b))))
  | .geq => some (none, .lit (.bool (decide (a ≥ b))))
  | _ => none

/-- x << y, x >> y. -/
def shN (k : IntKind) (b : Int) : Int := Int.ofNat (Nat.pow 2 (min b.toNat k.bits))
def shiftB (op : BinOp) (k : IntKind) (a b : Int) : Option (Option Bool × SV) :=
  match op with
  | .shl => some (some (decide (0 ≤ b)), .lit (.int k (k.wrap (a * shN k b))))
  | .shr => some (some (decide (0 ≤ b)), .lit (.int k (a.fdiv (shN k b))))
  | _ => none

def strBin (op : BinOp) (x y : ByteArray) : Option (Option Bool × SV) :=
  match op with
  | .add => some (some (decide (x.size + y.size ≤ most)), .lit (.string (x ++ y)))
  | .eql => some (none, .lit (.bool (x.toList == y.toList)))
  | .neq => some (none, .lit (.bool !(x.toList == y.toList)))
  | .lss => some (none, .lit (.bool (Op.bytesLess x.toList y.toList)))
  | .leq => some (none, .lit (.bool (Op.bytesLess x.toList y.toList || (x.toList == y.toList))))
  | .gtr => some (none, .lit (.bool !(Op.bytesLess x.toList y.toList || (x.toList == y.toList))))
  | .geq => some (none, .lit (.bool !(Op.bytesLess x.toList y.toList)))
  | _ => none

def eq1 : CK → SV → SV → Option Bool
  | .int k, .lit (.int k1 a), .lit (.int k2 b) => bif kindEq k k1 && kindEq k k2 then some (a == b) else none
  | .bool, .lit (.bool a), .lit (.bool b) => some (a == b)
  | .str, .lit (.string a), .lit (.string b) => some (a.toList == b.toList)
  | _, _, _ => none
def eqCells : List CK → List SV → List SV → Option Bool
  | [], [], [] => some true
  | [c], [x], [y] => eq1 c x y
  | c :: cs, x :: xs, y :: ys => (eq1 c x y).bind fun b => (eqCells cs xs ys).bind fun r => some (b && r)
  | _, _, _ => none

def binV (tab : Tab) (op : BinOp) (t : TypeId) (x y : SV) : Option (Option Bool × SV) :=
  match x, y with
  | .agg xs, .agg ys => (tab.cmp t).bind fun cs => (eqCells cs xs ys).bind fun b => match op with
    | .eql => some (none, .lit (.bool b))
    | .neq => some (none, .lit (.bool !b))
    | _ => none
  | .lit (.int k a), .lit (.int k' b) => match shiftB op k a b with
    | some r => some r
    | none => bif kindEq k k' then intBin op k a b else none
  | .lit (.string a), .lit (.string b) => strBin op a b
  | .lit (.bool a), .lit (.bool b) => match op, tab.ty t with
    | .eql, .bool => some (none, .lit (.bool (a == b)))
    | .neq, .bool => some (none, .lit (.bool !(a == b)))
    | _, _ => none
  | _, _ => none

def unV (op : UnOp) (x : SV) : Option SV :=
  match op, x with
  | .neg, .lit (.int k n) => some (.lit (.int k (k.wrap (0 - n))))
  | .not, .lit (.bool b) => some (.lit (.bool !b))
  | _, _ => none

def okE (v : SV) : Rd U (Out U) := .ret (.ret ⟨v, []⟩)
def okN (b : Bool) (v : SV) : Rd U (Out U) := .ret (.need b (.ret ⟨v, []⟩))
/-- A slice beside nil ('eq': are they one?): where it has elements it is not nil. -/
def nilCmp (k : Nat) (eq : Bool) : SV → Rd U (Out U)
  | .lit (.slice none 0 0) => okE (.lit (.bool eq))
  | .slc id ver p => (lenSV (U := U) k (.slc id ver p)).bind fun n => okN (decide (0 < n)) (.lit (.bool !eq))
  | _ => .fail
def needO (b : Option Bool) (o : Out U) : Out U :=
  match b with
  | some b => .need b o
  | none => o
/-- A new chunk, under a number that was none yet. -/
def newC (id : Nat) (c : Chunk U) (v : SV) (more : List (Nat × Chunk U)) : Rd U (Out U) :=
  .chunk id fun
    | .fresh => .ret (.ret ⟨v, (id, c) :: more⟩)
    | _ => .fail

/-- May a part of 'c || x' ('or') or 'c && x' that is there under these labels be read where c says so? -/
def pickOk (dst : Nat → Option Nat) (tags t : List (Nat × Bool)) (tc : Nat) (or : Bool) : Bool :=
  t.all fun x => (tags.any fun y => Nat.beq x.1 y.1 && (x.2 == y.2)) || ((match dst x.1 with | some d => Nat.beq d tc | none => false) && (x.2 == !or))

/-- a && b, a || b: 'or' tells which. -/
def pickR (dst : Nat → Option Nat) (tags : List (Nat × Bool)) (tc : Nat) (c x : SV) (or : Bool) : Rd U (Out U) :=
  match c, x with
  | .lit (.bool c), .lit (.bool q) => okE (.lit (.bool (bif or then c || q else c && q)))
  | .lit (.bool c), .when t _ (.lit (.bool q)) => bif pickOk dst tags t tc or then okE (.lit (.bool (bif or then c || q else c && q))) else .fail
  | _, _ => .fail

def litZ : List Value → List SV := List.map .lit

/-- An array's parts as fields. -/
def arrFs (n m : Nat) (g : Bool) : List (Nat × Nat × Bool) := (List.range n).map fun i => (i * m, m, g)
def buildCells (fs : List (Nat × Nat × Bool)) : List SV → List (Nat × SV) → Option (List SV)
  | cs, [] => some cs
  | cs, (i, v) :: r => match fs[i]? with
    | some (off, n, _) => bif Nat.beq (cellsOf v).length n && (cellsOf v).all cellLike then (setAt cs off (cellsOf v)).bind fun cs' => buildCells fs cs' r else none
    | none => none

/-- A row's elements out of parts 0, 1, ..; and the chunks that go with them. -/
def elems (k : Nat) : Nat → List (Nat × SV) → Rd U (List (U.El k) × List Nat)
  | _, [] => .ret ([], [])
  | j, (i, v) :: r => bif Nat.beq i j then
      (moveAll (U.enc k (U.dfl k)) (cellsOf v)).bind fun m => (Rd.of (U.dec k m.1)).bind fun x => (elems k (j + 1) r).bind fun y => .ret (x :: y.1, m.2 ++ y.2)
    else .fail

def castRow (k : Nat) (r : Row U) : Option (List (U.El k)) := if h : r.1 = k then some (h ▸ r.2) else none

/-- What append adds: its elements, the chunk that is used up (where elements hold rows). -/
def added (k : Nat) (x : SV) : Rd U (List (U.El k) × List Nat) :=
  bif U.nest k then
    match x with
    | .lit (.slice none 0 0) => .ret ([], [])
    | .slc id _ [] => .chunk id fun
      | .row true _ k' l => (Rd.of (castRow k ⟨k', l⟩)).bind fun l => .ret (l, [id])
      | _ => .fail
    | _ => .fail
  else (rowSV k x).bind fun r => (Rd.of (castRow k r)).bind fun l => .ret (l, [])

def appendV (site k : Nat) (ad : Rd U (List (U.El k) × List Nat)) (s : SV) : Rd U (Out U) :=
  ad.bind fun m =>
  match s with
  | .lit (.slice none 0 0) => .chunk site fun
    | .fresh => .ret (.need (decide (m.1.length ≤ most)) (.ret ⟨.slc site 0 [], (site, .row true 0 k m.1) :: goneAll m.2⟩))
    | _ => .fail
  | .slc id _ [] => .chunk id fun
    | .row true _ k' l => match castRow (U := U) k ⟨k', l⟩ with
      | some l => bif distinct (id :: m.2) then .chunk site fun
          | .fresh => .ret (.need (decide (l.length + m.1.length ≤ most)) (.ret ⟨.slc site 0 [], (site, .row true 0 k (l ++ m.1)) :: (id, .gone) :: goneAll m.2⟩))
          | _ => .fail
        else .fail
      | none => .fail
    | _ => .fail
  | .slc id ver [(i, c)] => .chunk id fun
    | .row true v k' l => bif Nat.beq v ver then match (U.enc k' (rd (U := U) ⟨k', l⟩ i))[c]? with
      | some (.row k2 l2) => match castRow (U := U) k ⟨k2, l2⟩ with
        | some l2 => bif distinct (id :: m.2) then .chunk site fun
            | .fresh => .ret (.need (decide (l2.length + m.1.length ≤ most)) (.ret ⟨.slc site 0 [], (site, .row true 0 k (l2 ++ m.1)) :: (id, .holed v k' l i c) :: goneAll m.2⟩))
            | _ => .fail
          else .fail
        | none => .fail
      | _ => .fail
      else .fail
    | _ => .fail
  | _ => .fail

/- Bytes as a text. -/
def numT : List (T U.El) → Int
  | [.lit (.int _ n)] => n
  | _ => 0
def strRow (k : Nat) (l : List (U.El k)) : ByteArray := strOfNums (l.map fun x => numT (U.enc k x))
def isU8 : Ty → Bool
  | .int .u8 => true
  | _ => false

/-- A text's bytes as a row. -/
def rowStr (k : Nat) (s : ByteArray) : List (U.El k) := s.data.toList.map fun b => (U.dec k [.lit (.int .u8 b.toNat)]).getD (U.dfl k)
/-- .. where the elements are numbers. -/
def bytesI (s : ByteArray) : List Int := s.data.toList.map fun b => (b.toNat : Int)
/-- What append adds: a row, a text's bytes. -/
def addedB (tab : Tab) (k : Nat) (t t' : TypeId) (x : SV) : Rd U (List (U.El k) × List Nat) :=
  bif Nat.beq t t' then added k x
  else match tab.ty t', x with
    | .str, .lit (.string b) => bif U.byt k then .ret (rowStr k b, []) else .fail
    | _, _ => .fail

/- Maps: rows of entries, a key's cells and a value's. -/
def ckOk : CK → SV → Bool
  | .int k, .lit (.int k' _) => kindEq k k'
  | .bool, .lit (.bool _) => true
  | .str, .lit (.string _) => true
  | _, _ => false
def cksOk : List CK → List SV → Bool
  | [], [] => true
  | c :: cs, x :: xs => ckOk c x && cksOk cs xs
  | _, _ => false
def litT : T U.El → SV
  | .lit v => .lit v
  | .row _ _ => .dead
def isB : Option Bool → Bool
  | some b => b
  | none => false
/-- Has the entry this key? -/
def keyIs (k : Nat) (cks : List CK) (key : List SV) (x : U.El k) : Bool := isB (eqCells cks key (((U.enc k x).take cks.length).map litT))
def mfind (k : Nat) (p : U.El k → Bool) (l : List (U.El k)) : U.El k := (l.find? p).getD (U.dfl k)
def mhas (k : Nat) (p : U.El k → Bool) (l : List (U.El k)) : Bool := l.any p
def mput (k : Nat) (p : U.El k → Bool) (x : U.El k) : List (U.El k) → List (U.El k)
  | [] => [x]
  | y :: r => bif p y then x :: r else y :: mput k p x r
def partsV (g : Bool) (cs : List SV) : Option SV :=
  match g, cs with
  | true, cs => some (.agg cs)
  | false, [v] => some v
  | _, _ => none

def partsOk : Bool → SV → Bool
  | true, .agg _ => true
  | false, .lit _ => true
  | _, _ => false

def btAt (s : ByteArray) (i : Int) : Int := ((s.data[i.toNat]?).getD 0).toNat

def minL (k0 : IntKind) : Int → List SV → Option Int
  | a, [] => some a
  | a, .lit (.int k b) :: r => bif kindEq k k0 then minL k0 (if b < a then b else a) r else none
  | _, _ => none
def maxL (k0 : IntKind) : Int → List SV → Option Int
  | a, [] => some a
  | a, .lit (.int k b) :: r => bif kindEq k k0 then maxL k0 (if b > a then b else a) r else none
  | _, _ => none

end
end Go.Proofs.YtchohkelpjfpcaaDoor.AX

/- The small machine: operations, regions, code. No conditions. -/
namespace Go.Proofs.YtchohkelpjfpcaaDoor.AX
open Go

abbrev Sig := FuncId → Option (List PF × List RF)

/-- What becomes of a row that was handed on. -/
inductive Bc where
  | none
  | turn (id ver : Nat)
  | eat (id : Nat)

inductive Bk (U : Uni) where
  | one (b : Bc)
  | nest (id ver k : Nat) (l : List (U.El k)) (i : Int) (c : Nat)
  | agg (bs : List Bc)
  | box (id : Nat) (ty : TypeId) (cs : List SV) (fs : List PF)
  | elem (id ver k : Nat) (l : List (U.El k))

structure Lent (U : Uni) where
  dv : DV U
  ex : List Nat
  ro : List Nat

section
variable {U : Uni}

def rootOf : SV → List Nat
  | .slc id _ _ => [id]
  | .win id _ _ _ _ => [id]
  | _ => []

def PF.own : PF → Bool
  | .row _ 0 => false
  | .ro _ => false
  | _ => true

def PF.turns : PF → Bool
  | .row _ 1 => true
  | _ => false

/-- A scalar or a row as it is handed on. -/
def lendCell (f : PF) (s : SV) : Rd U (Lent U) :=
  match f, s with
  | .sc, .lit v => .ret ⟨.val v, [], []⟩
  | .row k 0, s => (rowSV k s).bind fun r => .ret ⟨.row r.1 r.2, [], rootOf s⟩
  | .ro k, s => (rowSV k s).bind fun r => .ret ⟨.row r.1 r.2, [], rootOf s⟩
  | .row k (_ + 1), .lit (.slice none 0 0) => .ret ⟨.row k [], [], []⟩
  | .row _ (_ + 1), .slc id _ [] => .chunk id fun
    | .row true _ k' l => .ret ⟨.row k' l, [id], []⟩
    | _ => .fail
  | _, _ => .fail

def lendCells : List PF → List SV → Rd U (List (Lent U))
  | [], [] => .ret []
  | f :: fs, s :: ss => (lendCell f s).bind fun x => (lendCells fs ss).bind fun y => .ret (x :: y)
  | _, _ => .fail

def verOf : Chunk U → Nat
  | .row _ v _ _ => v
  | _ => 0

/-- .. and what becomes of it. -/
def lendC (f : PF) (s : SV) : Rd U (Lent U × Bc) :=
  match f, s with
  | .row k 1, .slc id ver [] => .chunk id fun c => (lendCell (.row k 1) (.slc id ver [])).bind fun l => .ret (l, .turn id (verOf c))
  | .row k 2, .slc id ver [] => (lendCell (.row k 2) (.slc id ver [])).bind fun l => .ret (l, .eat id)
  | .row k 2, .lit v => (lendCell (.row k 2) (.lit v)).bind fun l => .ret (l, .none)
  | .row k 0, s => (lendCell (.row k 0) s).bind fun l => .ret (l, .none)
  | .ro k, s => (lendCell (.ro k) s).bind fun l => .ret (l, .none)
  | .sc, s => (lendCell .sc s).bind fun l => .ret (l, .none)
  | _, _ => .fail

def lendCs : List PF → List SV → Rd U (List (Lent U × Bc))
  | [], [] => .ret []
  | f :: fs, s :: ss => (lendC f s).bind fun x => (lendCs fs ss).bind fun y => .ret (x :: y)
  | _, _ => .fail

def lend (f : PF) (s : SV) : Rd U (Lent U × Bk U) :=
  match f, s with
  | .agg fs, .agg ss => (lendCs fs ss).bind fun ls => .ret (⟨.agg (ls.map (·.1.dv)), ls.flatMap (·.1.ex), ls.flatMap (·.1.ro)⟩, .agg (ls.map (·.2)))
  | .box ty fs, .ptr id _ [] _ 0 => .chunk id fun
    | .box ty' cs => bif Nat.beq ty ty' then (lendCells fs cs).bind fun ls => .ret (⟨.agg (ls.map (·.dv)), id :: ls.flatMap (·.ex), ls.flatMap (·.ro)⟩, .box id ty cs fs) else .fail
    | _ => .fail
  | .elem k, .ptr id _ [] i 0 => .chunk id fun
    | .row true v k' l => bif Nat.beq k k' && Nat.ble 1 (U.sz k') then .ret (⟨.agg [.row k' l, .val (.int .i64 i)], [id], []⟩, .elem id v k' l) else .fail
    | _ => .fail
  | .row k 1, .slc id ver [(i, c)] => .chunk id fun
    | .row true v k' l => bif Nat.beq v ver then match (U.enc k' (rd (U := U) ⟨k', l⟩ i))[c]? with
      | some (.row k2 l2) => bif Nat.beq k k2 then .ret (⟨.row k2 l2, [id], []⟩, .nest id v k' l i c) else .fail
      | _ => .fail
      else .fail
    | _ => .fail
  | f, s => (lendC f s).bind fun x => .ret (x.1, .one x.2)

def lendAll : List PF → List SV → Rd U (List (Lent U × Bk U))
  | [], [] => .ret []
  | f :: fs, s :: ss => (lend f s).bind fun x => (lendAll fs ss).bind fun y => .ret (x :: y)
  | _, _ => .fail

/-- A box's cells behind a call: the cells, the new chunks, what is used up. -/
def backCells : List PF → List SV → List (DV U) → Nat → Option (List SV × List (Nat × Chunk U) × List Nat × Nat)
  | [], [], [], n => some ([], [], [], n)
  | .sc :: fs, _ :: ss, .val v :: ds, n => (backCells fs ss ds n).bind fun x => some (.lit v :: x.1, x.2)
  | .row _ 0 :: fs, s :: ss, _ :: ds, n => (backCells fs ss ds n).bind fun x => some (s :: x.1, x.2)
  | .ro _ :: fs, s :: ss, _ :: ds, n => (backCells fs ss ds n).bind fun x => some (s :: x.1, x.2)
  | .row _ (_ + 1) :: fs, s :: ss, .row k' l :: ds, n => (backCells fs ss ds (n + 1)).bind fun x => some (.slc n 0 [] :: x.1, (n, .row true 0 k' l) :: x.2.1, rootOf s ++ x.2.2.1, x.2.2.2)
  | _, _, _, _ => none

/-- Rows that turn in place, rows that are used up. -/
def backBcs : List Bc → List (DV U) → Option (List (Nat × Chunk U) × List Nat)
  | [], [] => some ([], [])
  | .none :: bs, _ :: ds => backBcs bs ds
  | .turn id v :: bs, .row k l :: ds => (backBcs bs ds).bind fun x => some ((id, .row true (v + 1) k l) :: x.1, x.2)
  | .eat id :: bs, _ :: ds => (backBcs bs ds).bind fun x => some (x.1, id :: x.2)
  | _, _ => Option.none

/-- Places that tell nothing, where nothing is told. -/
def fillD (n : Nat) : List (DV U) → List (DV U)
  | [] => List.replicate n (.agg [])
  | l => l

def nestBack (k : Nat) (l : List (U.El k)) (i : Int) (c : Nat) (k2 : Nat) (l2 : List (U.El k2)) : Option (List (U.El k)) :=
  ((setAt (U.enc k (rd (U := U) ⟨k, l⟩ i)) c [.row k2 l2]).bind (U.dec k)).bind fun x => some (l.set i.toNat x)

/-- The chunks behind a call: those that turn or are new, those that are used up. -/
def backAll : List (Bk U) → List (DV U) → Nat → Option (List (Nat × Chunk U) × List Nat × Nat)
  | [], [], n => some ([], [], n)
  | .one b :: bs, d :: ds, n => (backBcs [b] [d]).bind fun y => (backAll bs ds n).bind fun x => some (y.1 ++ x.1, y.2 ++ x.2.1, x.2.2)
  | .nest id v k l i c :: bs, .row k2 l2 :: ds, n => (nestBack k l i c k2 l2).bind fun y => (backAll bs ds n).bind fun x => some ((id, .row true (v + 1) k y) :: x.1, x.2)
  | .elem id v k _ :: bs, .row k' l' :: ds, n => bif Nat.beq k k' then (backAll bs ds n).bind fun x => some ((id, .row true (v + 1) k' l') :: x.1, x.2) else none
  | .agg cs :: bs, .agg cd :: ds, n => (backBcs cs (fillD cs.length cd)).bind fun y => (backAll bs ds n).bind fun x => some (y.1 ++ x.1, y.2 ++ x.2.1, x.2.2)
  | .box id ty cs fs :: bs, .agg cd :: ds, n => (backCells fs cs cd n).bind fun y => (backAll bs ds y.2.2.2).bind fun x => some ((id, .box ty y.1) :: (y.2.1 ++ x.1), y.2.2.1 ++ x.2.1, x.2.2)
  | _, _, _ => none

/-- What a result is: new, or what was there. -/
inductive RX where
  | sc
  | row
  | keep (s : SV)
  | agg (fs : List RX)
  | box (ty : TypeId) (fs : List RX)

/-- An argument's part. -/
def sameSV (args : List SV) (j c : Nat) : Rd U SV := match args[j]? with
  | some (.agg ss) => Rd.of ss[c]?
  | some (.ptr id _ [] _ 0) => .chunk id fun
    | .box _ cs => Rd.of cs[c]?
    | _ => .fail
  | some (.slc id v p) => bif Nat.beq c 0 then .ret (.slc id v p) else .fail
  | some (.win id v p o n) => bif Nat.beq c 0 then .ret (.win id v p o n) else .fail
  | some (.lit (.slice none 0 0)) => bif Nat.beq c 0 then .ret (.lit (.slice none 0 0)) else .fail
  | _ => .fail

def rxCell (args : List SV) : RF → Rd U RX
  | .sc => .ret .sc
  | .row _ => .ret .row
  | .same j c => (sameSV args j c).bind fun s => .ret (.keep s)
  | _ => .fail
def rxCells (args : List SV) : List RF → Rd U (List RX)
  | [] => .ret []
  | f :: fs => (rxCell args f).bind fun x => (rxCells args fs).bind fun y => .ret (x :: y)
def rxOne (args : List SV) : RF → Rd U RX
  | .agg fs => (rxCells args fs).bind fun l => .ret (.agg l)
  | .box ty fs => (rxCells args fs).bind fun l => .ret (.box ty l)
  | f => rxCell args f
def rxMany (args : List SV) : List RF → Rd U (List RX)
  | [] => .ret []
  | f :: fs => (rxOne args f).bind fun x => (rxMany args fs).bind fun y => .ret (x :: y)

def retCell : RX → DV U → Nat → Option (SV × List (Nat × Chunk U) × Nat)
  | .sc, .val v, n => some (.lit v, [], n)
  | .row, .row k l, n => some (.slc n 0 [], [(n, .row true 0 k l)], n + 1)
  | .sc, .row k l, n => some (.slc n 0 [], [(n, .row true 0 k l)], n + 1)
  | .keep s, .agg [], n => some (s, [], n)
  | _, _, _ => none

def retCells : List RX → List (DV U) → Nat → Option (List SV × List (Nat × Chunk U) × Nat)
  | [], [], n => some ([], [], n)
  | f :: fs, d :: ds, n => (retCell f d n).bind fun x => (retCells fs ds x.2.2).bind fun y => some (x.1 :: y.1, x.2.1 ++ y.2.1, y.2.2)
  | _, _, _ => none

def retOne : RX → DV U → Nat → Option (SV × List (Nat × Chunk U) × Nat)
  | .agg fs, .agg ds, n => (retCells fs ds n).bind fun x => some (.agg x.1, x.2.1, x.2.2)
  | .box ty fs, .agg ds, n => (retCells fs ds (n + 1)).bind fun x => some (.ptr n 0 [] 0 0, (n, .box ty x.1) :: x.2.1, x.2.2)
  | f, d, n => retCell f d n

def retMany : List RX → List (DV U) → Nat → Option (List SV × List (Nat × Chunk U) × Nat)
  | [], [], n => some ([], [], n)
  | f :: fs, d :: ds, n => (retOne f d n).bind fun x => (retMany fs ds x.2.2).bind fun y => some (x.1 :: y.1, x.2.1 ++ y.2.1, y.2.2)
  | _, _, _ => none

def tupOf : List SV → SV
  | [v] => v
  | vs => .tup vs

/-- The numbers from n on (so many) are none yet. -/
def freshAll : Nat → Nat → Rd U Unit
  | 0, _ => .ret ()
  | c + 1, n => .chunk n fun
    | .fresh => freshAll c (n + 1)
    | _ => .fail

def callV (sig : Sig) (site : Nat) (f : FuncId) (args : List SV) : Rd U (Out U) :=
  match sig f with
  | none => .fail
  | some (pf, rf) => (lendAll pf args).bind fun ls => (rxMany args rf).bind fun rx =>
    let ex := ls.flatMap (·.1.ex)
    let ro := ls.flatMap (·.1.ro)
    bif distinct ex && (ex.all fun i => ro.all fun j => !Nat.beq i j) then
      (freshAll 48 site).bind fun _ => .ret (.call f (ls.map (·.1.dv)) fun ret after =>
        match ret with
        | .agg rs => (retMany rx rs site).bind fun x => (backAll (ls.map (·.2)) after x.2.2).bind fun y =>
            bif Nat.ble y.2.2 (site + 48) then some ⟨tupOf x.1, x.2.1 ++ (y.1 ++ goneAll y.2.1)⟩ else none
        | _ => none)
    else .fail

def siteOf (o : Oper) : Nat := 64 * (o.dst.getD 0)

def partsOf (tags : List (Nat × Bool)) : List (Nat × Operand) → Rd U (List (Nat × SV))
  | [] => .ret []
  | (i, x) :: r => (opd tags x).bind fun v => (partsOf tags r).bind fun vs => .ret ((i, v) :: vs)

def numV : SV → Option Int
  | .lit (.int _ n) => some n
  | _ => none

def numO (tags : List (Nat × Bool)) : Option Operand → Rd U (Option Int)
  | none => .ret none
  | some x => (opd tags x).bind fun v => (Rd.of (numV v)).bind fun n => .ret (some n)

def isStrV : SV → Option ByteArray
  | .lit (.string s) => some s
  | _ => none

/-- x[lo:hi] of a row. -/
def winV (x : SV) (off len : Int) : Option SV :=
  match x with
  | .slc id v p => some (.win id v p off len)
  | .win id v p o _ => some (.win id v p (o + off) len)
  | .lit (.slice none 0 0) => some x
  | _ => none

def pickA (dst : Nat → Option Nat) (tags : List (Nat × Bool)) (c x y : Operand) : Rd U (Out U) :=
  match c, x, y with
  | .tmp tc, .const (.bool true), .tmp t => .slot tc fun c0 => (Rd.of (strip tags c0)).bind fun c' => .slot t fun x => pickR dst tags tc c' x true
  | .tmp tc, .tmp t, .const (.bool false) => .slot tc fun c0 => (Rd.of (strip tags c0)).bind fun c' => .slot t fun x => pickR dst tags tc c' x false
  | _, _, _ => .fail

def makeFA (tags : List (Nat × Bool)) (fn : Fn) (xs caps : Array Operand) : Rd U (Out U) :=
  match fn, xs.toList with
  | .func f, [] => (opds tags caps.toList).bind fun cs => okE (.fn f cs)
  | _, _ => .fail

def aop (tab : Tab) (sig : Sig) (dst : Nat → Option Nat) (tags : List (Nat × Bool)) (o : Oper) : Rd U (Out U) :=
  match o.op with
  | .move x => (opd tags x).bind okE
  | .assign x => (opd tags x).bind okE
  | .pick c x y => pickA dst tags c x y
  | .alloc t => (Rd.of (tab.lay t)).bind fun L => newC (siteOf o) (.box t (litZ L.zero)) (.ptr (siteOf o) 0 [] 0 0) []
  | .box t x => (opd tags x).bind fun v => bif (cellsOf v).all cellLike then newC (siteOf o) (.box t (cellsOf v)) (.ptr (siteOf o) 0 [] 0 0) [] else .fail
  | .build t ps => match tab.ty t with
    | .agg fs => (partsOf tags ps.toList).bind fun vs => (Rd.of (tab.lay t)).bind fun L => (Rd.of (buildCells fs (litZ L.zero) vs)).bind fun cs => okE (.agg cs)
    | .arr n m g => (partsOf tags ps.toList).bind fun vs => (Rd.of (tab.lay t)).bind fun L => (Rd.of (buildCells (arrFs n m g) (litZ L.zero) vs)).bind fun cs => okE (.agg cs)
    | _ => .fail
  | .buildSlice t n ps => match tab.ty t with
    | .slice k => (partsOf tags ps.toList).bind fun vs => bif Nat.beq vs.length n && Nat.ble (n * U.sz k) 16777216 then (elems k 0 vs).bind fun m =>
        bif distinct m.2 then newC (siteOf o) (.row true 0 k m.1) (.slc (siteOf o) 0 []) (goneAll m.2) else .fail else .fail
    | _ => .fail
  | .load t a => (opd tags a).bind fun v => match v with
    | .ptr id ver p i c => (Rd.of (tab.lay t)).bind fun L => (loadN id ver p i c L.size).bind fun cs => match L.agg, cs with
      | true, cs => okE (.agg cs)
      | false, [s] => okE s
      | _, _ => .fail
    | _ => .fail
  | .store t a x => (opd tags a).bind fun v => (opd tags x).bind fun xv => match v with
    | .ptr id ver p i c => (Rd.of (tab.lay t)).bind fun L => bif Nat.beq (cellsOf xv).length L.size then (storeN id ver p i c (cellsOf xv)).bind fun r => .ret (needO r.1 (.ret ⟨.dead, r.2⟩)) else .fail
    | _ => .fail
  | .binOp op t x y _ => (opd tags x).bind fun a => (opd tags y).bind fun b => match b with
    | .lit (.slice none 0 0) => match tab.ty t, op with
      | .slice k, .eql => nilCmp k true a
      | .slice k, .neq => nilCmp k false a
      | _, _ => .fail
    | b => (Rd.of (binV tab op t a b)).bind fun r => .ret (needO r.1 (.ret ⟨r.2, []⟩))
  | .unOp op _ x => (opd tags x).bind fun a => (Rd.of (unV op a)).bind okE
  | .convert s d x => (opd tags x).bind fun a => match tab.ty s, tab.ty d, a with
    | .int _, .int k, .lit (.int _ n) => okE (.lit (.int k (k.wrap n)))
    | .int _, .str, .lit (.int _ n) => okE (.lit (.string (Utf8.encode n)))
    | .str, .slice k, .lit (.string b) => bif U.byt k && isU8 (tab.ty (U.ty k)) then (newC (siteOf o) (.row true 0 k (rowStr k b)) (.slc (siteOf o) 0 []) []).bind fun x => .ret (.need (decide (b.size ≤ most)) x) else .fail
    | .slice k, .slice k', .slc id ver [] => bif Nat.beq s d && (U.byt k && isU8 (tab.ty (U.ty k))) then .chunk id fun
      | .row true v k2 l => bif Nat.beq k2 k then .ret (.need (decide (0 < l.length)) (.ret ⟨.slc id (v + 1) [], [(id, .row true (v + 1) k2 l)]⟩)) else .fail
      | _ => .fail
      else .fail
    | .slice k, .str, v => bif U.byt k && isU8 (tab.ty (U.ty k)) then (rowSV k v).bind fun r => (Rd.of (castRow (U := U) k r)).bind fun l => okE (.lit (.string (strRow k l))) else .fail
    | _, _, _ => .fail
  | .makeSlice t l c => match tab.ty t with
    | .slice k => (opd tags l).bind fun l' => (opd tags c).bind fun c' => match l', c' with
      | .lit (.int .i64 n), .lit (.int .i64 m) => .chunk (siteOf o) fun
        | .fresh => .ret (.need (decide (0 ≤ n) && decide (n ≤ m) && decide (m ≤ most)) (.ret ⟨.slc (siteOf o) 0 [], [(siteOf o, .row true 0 k (List.replicate n.toNat (U.dfl k)))]⟩))
        | _ => .fail
      | _, _ => .fail
    | _ => .fail
  | .slice t x lo hi none => (opd tags x).bind fun v => (numO tags lo).bind fun l => (numO tags hi).bind fun h => match tab.ty t with
    | .str => match isStrV v with
      | some s => let l' := l.getD 0; let h' := h.getD s.size; okN (decide (0 ≤ l') && decide (l' ≤ h') && decide (h' ≤ s.size)) (.lit (.string (s.extract l'.toNat h'.toNat)))
      | none => .fail
    | .slice k => (lenSV (U := U) k v).bind fun n => let l' := l.getD 0; let h' := h.getD n; (Rd.of (winV v l' (h' - l'))).bind fun r => okN (decide (0 ≤ l') && decide (l' ≤ h') && decide (h' ≤ n)) r
    | _ => .fail
  | .fieldAddr t x f => match tab.ty t with
    | .agg fs => (opd tags x).bind fun v => match v, fs[f]? with
      | .ptr id ver p i c, some (off, _, _) => okE (.ptr id ver p i (c + off))
      | _, _ => .fail
    | _ => .fail
  | .field t x f => match tab.ty t with
    | .agg fs => (opd tags x).bind fun v => match v, fs[f]? with
      | .agg cs, some (off, n, true) => (Rd.of (cut off n cs)).bind fun m => okE (.agg m)
      | .agg cs, some (off, _, false) => (Rd.of cs[off]?).bind okE
      | _, _ => .fail
    | _ => .fail
  | .indexAddr t x ix => match tab.ty t with
    | .slice k => (opd tags x).bind fun v => (opd tags ix).bind fun i => match v, i with
      | .slc id ver p, .lit (.int _ n) => .chunk id fun
        | .holed _ k' l _ _ => match p with
          | [] => bif Nat.beq k' k then okN (decide (0 ≤ n) && decide (n < Int.ofNat l.length)) (.ptr id ver [] n 0) else .fail
          | _ => .fail
        | _ => (lenSV (U := U) k v).bind fun len => okN (decide (0 ≤ n) && decide (n < len)) (.ptr id ver p n 0)
      | .win id ver p off len, .lit (.int _ n) => (lenSV (U := U) k v).bind fun _ => okN (decide (0 ≤ n) && decide (n < len)) (.ptr id ver p (off + n) 0)
      | _, _ => .fail
    | _ => .fail
  | .index t x ix => match tab.ty t with
    | .str => (opd tags x).bind fun v => (opd tags ix).bind fun i => match v, i with
      | .lit (.string s), .lit (.int _ n) => okN (decide (0 ≤ n) && decide (n < s.size)) (.lit (.int .u8 (btAt s n)))
      | _, _ => .fail
    | _ => .fail
  | .makeMap t r => match tab.ty t with
    | .map k => (numO tags r).bind fun _ => newC (siteOf o) (.mp k []) (.mref (siteOf o)) []
    | _ => .fail
  | .lookup t m x ok => match tab.ty t with
    | .map k => (opd tags m).bind fun v => (opd tags x).bind fun q => match v, U.mp k with
      | .mref id, some (cks, ka, va) => .chunk id fun
        | .mp k' l => (Rd.of (castRow (U := U) k ⟨k', l⟩)).bind fun l => bif cksOk cks (cellsOf q) && partsOk ka q then
            (Rd.of (partsV va (((U.enc k (mfind k (keyIs k cks (cellsOf q)) l)).drop cks.length).map litT))).bind fun r => okE (bif ok then .tup [r, .lit (.bool (mhas k (keyIs k cks (cellsOf q)) l))] else r)
          else .fail
        | _ => .fail
      | _, _ => .fail
    | _ => .fail
  | .mapUpdate t m x y => match tab.ty t with
    | .map k => (opd tags m).bind fun v => (opd tags x).bind fun q => (opd tags y).bind fun u => match v, U.mp k with
      | .mref id, some (cks, ka, va) => .chunk id fun
        | .mp k' l => (Rd.of (castRow (U := U) k ⟨k', l⟩)).bind fun l => bif cksOk cks (cellsOf q) && (partsOk ka q && partsOk va u) then
            (Rd.of ((litCs (cellsOf q ++ cellsOf u)).bind fun vs => U.dec k (vs.map .lit))).bind fun e => .ret (.ret ⟨.dead, [(id, .mp k (mput k (keyIs k cks (cellsOf q)) e l))]⟩)
          else .fail
        | _ => .fail
      | _, _ => .fail
    | _ => .fail
  | .extract x i => (opd tags x).bind fun v => match v with
    | .tup vs => (Rd.of vs[i]?).bind okE
    | _ => .fail
  | .makeFunc fn xs caps => makeFA tags fn xs caps
  | .nilCheck x => (opd tags x).bind fun v => match v with
    | .ptr id ver p i c => okE (.ptr id ver p i c)
    | .fn f caps => okE (.fn f caps)
    | _ => .fail
  | .call c => (opds tags c.args.toList).bind fun args => match c.callee with
    | .builtin .len => match (c.argTypes[0]?).map tab.ty with
      | some .str => match args with
        | [.lit (.string s)] => okE (.lit (.int .i64 s.size))
        | _ => .fail
      | some (.slice k) => match args with
        | [v] => (lenSV (U := U) k v).bind fun n => okE (.lit (.int .i64 n))
        | _ => .fail
      | some (.map k) => match args with
        | [.mref id] => .chunk id fun
          | .mp k' l => bif Nat.beq k k' then okE (.lit (.int .i64 (Int.ofNat l.length))) else .fail
          | _ => .fail
        | _ => .fail
      | _ => .fail
    | .builtin .append => match args, c.argTypes.toList with
      | [s, x], [t, t'] => match tab.ty t with
        | .slice k => appendV (siteOf o) k (addedB tab k t t' x) s
        | _ => .fail
      | _, _ => .fail
    | .builtin .min => match args with
      | .lit (.int k a) :: r => (Rd.of (minL k a r)).bind fun m => okE (.lit (.int k m))
      | _ => .fail
    | .builtin .max => match args with
      | .lit (.int k a) :: r => (Rd.of (maxL k a r)).bind fun m => okE (.lit (.int k m))
      | _ => .fail
    | .value f => (opd tags f).bind fun g => match g with
      | .fn f caps => callV sig (siteOf o) f (args ++ caps)
      | _ => .fail
    | _ => .fail
  | _ => .fail

def pureOp : Op → Bool
  | .move _ | .assign _ | .pick .. | .build .. | .load .. | .binOp .. | .unOp .. | .convert .. | .slice .. | .fieldAddr .. | .field .. | .indexAddr .. | .index .. | .extract .. | .nilCheck .. | .lookup .. => true
  | .call { callee := .builtin .len, .. } | .call { callee := .builtin .min, .. } | .call { callee := .builtin .max, .. } => true
  | _ => false

def wrapOut (tags : List (Nat × Bool)) (g : Bool) : Out U → Option (Out U)
  | .ret ⟨.when _ _ _, _⟩ => none
  | .ret ⟨v, []⟩ => some (.ret ⟨.when tags g v, []⟩)
  | .need b o => (wrapOut tags g o).map (.need (!g || b))
  | _ => none

/-- What is there under labels. -/
def tagV (tags : List (Nat × Bool)) (g : Bool) : SV → SV
  | .lit v => .when tags g (.lit v)
  | .when _ _ _ => .dead
  | v => v
def tagE (tags : List (Nat × Bool)) (g : Bool) (e : Eff U) : Eff U := ⟨tagV tags g e.dst, e.ch⟩
def tagO (tags : List (Nat × Bool)) (g : Bool) : Out U → Out U
  | .ret e => .ret (tagE tags g e)
  | .need b o => .need b (tagO tags g o)
  | .ite b x y => .ite b (tagO tags g x) (tagO tags g y)
  | .call f ds k => .call f ds fun r m => (k r m).map (tagE tags g)
def zeroW (tags : List (Nat × Bool)) (g : Bool) : Ty → SV
  | .int k => .when tags g (.lit (.int k 0))
  | .bool => .when tags g (.lit (.bool false))
  | .str => .when tags g (.lit (.string ⟨#[]⟩))
  | .slice _ => .when tags g (.lit (.slice none 0 0))
  | _ => .dead

def guarded (tab : Tab) (sig : Sig) (dst : Nat → Option Nat) (tags : List (Nat × Bool)) (g : Bool) (o : Oper) : Rd U (Out U) :=
  bif pureOp o.op then (aop tab sig dst tags o).bind fun x => Rd.of (wrapOut tags g x)
  else (aop tab sig dst tags o).bind fun x => .ret (.ite g (tagO tags g x) (.ret ⟨zeroW tags g (tab.ty o.type), []⟩))

def gate (want b : Bool) : Bool := bif want then b else !b

def dstAt (ops : Array Oper) (j : Nat) : Option Nat := (ops[j]?).bind (·.dst)

def opR (tab : Tab) (sig : Sig) (ops : Array Oper) (o : Oper) : Rd U (Out U) :=
  match o.guard with
  | none => aop tab sig (dstAt ops) [] o
  | some (j, want) => match dstAt ops j with
    | some d => .slot d fun
      | .lit (.bool b) => guarded tab sig (dstAt ops) [(j, want)] (gate want b) o
      | .when t g (.lit (.bool b)) => guarded tab sig (dstAt ops) ((j, want) :: t) (g && gate want b) o
      | _ => .fail
    | none => .fail

/-- What was there under labels is forgotten. -/
def St.plain (s : St U) : St U := ⟨s.slots.map fun x => (x.1, match x.2 with | .when _ _ _ => .dead | v => v), s.chunks⟩

structure Fp where
  rs : List Nat
  rc : List Nat
  ws : List Nat
  wc : List Nat

def meets (a b : List Nat) : Bool := a.any fun x => b.any fun y => Nat.beq x y
def Fp.clash (a b : Fp) : Bool := meets a.ws b.rs || meets a.rs b.ws || meets a.ws b.ws || meets a.wc b.rc || meets a.rc b.wc || meets a.wc b.wc

def maskOf (acc : List Nat) (es : List Edge) : Nat := es.foldl (fun m e => bif Region.binds .any e then m ||| 2 ^ e.on ||| acc.getD e.on 0 else m) 0
def masks : List Nat → List Oper → List Nat
  | acc, [] => acc
  | acc, o :: r => masks (acc ++ [maskOf acc o.after.toList]) r

/-- Each two that clash are ordered. -/
def okFps (ms : List Nat) (fs : List Fp) : Bool :=
  (List.range fs.length).all fun j => match fs[j]? with
    | some b => (List.range j).all fun i => match fs[i]? with
      | some a => !a.clash b || (ms.getD j 0).testBit i
      | none => false
    | none => false

/-- Each edge goes back. -/
def edgesBack (l : List Oper) : Bool := (l.zipIdx).all fun x => x.1.after.toList.all fun e => !Region.binds .any e || Nat.blt e.on x.2

inductive AExit where
  | normal
  | exit (id : Nat)
  | ret

/-- Out of a block. -/
def past (id : Nat) : AExit → AExit
  | .exit n => bif Nat.beq n id then .normal else .exit n
  | e => e

abbrev Cont (U : Uni) (R : Type) := AExit → St U → Option R
abbrev Oracle (U : Uni) (R : Type) := St U → Cont U R → Option R

structure Env (U : Uni) (R : Type) where
  n : Nat
  tab : Tab
  sig : Sig
  cal : FuncId → List (DV U) → (DV U → List (DV U) → Option R) → Option R
  loops : Nat → Option (Oracle U R)
  tails : Nat → Option (Oracle U R)

variable {R : Type}

def runOut (E : Env U R) (K : Eff U → Option R) : Out U → Option R
  | .ret e => K e
  | .need b o => cond b (runOut E K o) none
  | .ite b o1 o2 => cond b (runOut E K o1) (runOut E K o2)
  | .call f ds k => E.cal f ds fun r m => match k r m with
    | some e => K e
    | none => none

def okDst (o : Oper) : SV → Bool
  | .when _ _ _ => o.guard.isSome
  | _ => true

def inside (n : Nat) : Option Nat → Bool
  | some d => Nat.blt d n
  | none => true

def fpOf (s : St U) (x : Rd U (Out U)) (o : Oper) (e : Eff U) : Fp := ⟨x.keysS s, x.keysC s, o.dst.toList, e.ch.map (·.1)⟩

def regionX (E : Env U R) (ops : Array Oper) (K : List Fp → St U → Option R) : List Oper → List Fp → St U → Option R
  | [], fs, s => K fs s
  | o :: r, fs, s => bif inside E.n o.dst then match (opR E.tab E.sig ops o).run s with
    | some x => runOut E (fun e => bif okDst o e.dst then regionX E ops K r (fs ++ [fpOf s (opR E.tab E.sig ops o) o e]) (s.put o.dst e) else none) x
    | none => none
    else none

def isPick : Op → Bool
  | .pick .. => true
  | _ => false

def hasGuard (l : List Oper) : Bool := l.any fun o => o.guard.isSome || isPick o.op

/-- Each guard is an earlier operation. -/
def guardsBack (l : List Oper) : Bool := (l.zipIdx).all fun x => match x.1.guard with | some (j, _) => Nat.blt j x.2 | none => true

def firstR : Code → Option Nat
  | .region id _ _ => some id
  | .seq a _ => firstR a
  | .block _ c => firstR c
  | .loop c => firstR c
  | _ => none

def exec (E : Env U R) : Code → St U → Cont U R → Option R
  | .skip, s, K => K .normal s
  | .region _ ops draw, s, K =>
    bif hasGuard ops.toList then
      bif distinct (ops.toList.flatMap fun o => o.dst.toList) && guardsBack ops.toList then regionX E ops (fun fs s' => bif !draw || (okFps (masks [] ops.toList) fs && edgesBack ops.toList) then K .normal s' else none) ops.toList [] s.plain else none
    else regionX E ops (fun fs s' => bif !draw || (okFps (masks [] ops.toList) fs && edgesBack ops.toList) then K .normal s' else none) ops.toList [] s
  | .seq a b, s, K => exec E a s fun
    | .normal, s' => match (firstR b).bind E.tails with
      | some o => o s' K
      | none => exec E b s' K
    | x, s' => K x s'
  | .cond (.tmp t) a b, s, K => match s.slot t with
    | .lit (.bool c) => cond c (exec E a s K) (exec E b s K)
    | _ => none
  | .block id (.loop c), s, K => match E.loops id with
    | some o => o s K
    | none => none
  | .block id c, s, K => exec E c s fun e s' => K (past id e) s'
  | .exit id, s, K => K (.exit id) s
  | .ret, s, K => K .ret s
  | _, _, _ => none

end
end Go.Proofs.YtchohkelpjfpcaaDoor.AX

/- The types of this program for the small machine. No conditions. -/
namespace Go.Proofs.YtchohkelpjfpcaaDoor.AX
open Go
@[ext] structure S69 where
  f0 : Int
  f1 : Int
  f2 : Int
  f3 : Int
def z69 : S69 := ⟨0, 0, 0, 0⟩
@[ext] structure S64 where
  f0 : ByteArray
  f1 : Int
  f2 : List S69
def z64 : S64 := ⟨⟨#[]⟩, 0, []⟩
@[ext] structure S56 where
  f0 : Int
  f1 : Int
  f2 : Int
  f3 : Int
  f4 : Int
  f5 : Bool
def z56 : S56 := ⟨0, 0, 0, 0, 0, false⟩
@[ext] structure S54 where
  f0 : ByteArray
  f1 : Int
  f2 : List S69
def z54 : S54 := ⟨⟨#[]⟩, 0, []⟩
@[ext] structure S71 where
  f0 : Int
  f1 : Int
  f2 : Int
def z71 : S71 := ⟨0, 0, 0⟩
@[ext] structure S85 where
  f0 : Int
  f1 : Int
  f2 : Int
def z85 : S85 := ⟨0, 0, 0⟩
@[ext] structure S78 where
  f0 : Int
  f1 : Int
  f2 : Int
def z78 : S78 := ⟨0, 0, 0⟩
@[ext] structure S95 where
  f0 : Int
  f1 : Int
  f2 : Bool
def z95 : S95 := ⟨0, 0, false⟩
@[ext] structure S104 where
  f0 : ByteArray
  f1 : Bool
def z104 : S104 := ⟨⟨#[]⟩, false⟩
abbrev El : Nat → Type
  | 0 => S64
  | 1 => S56
  | 2 => S54
  | 3 => S56
  | 4 => Int
  | 5 => Int
  | 6 => S69
  | 7 => S69
  | 8 => S71
  | 9 => S85
  | 10 => Bool
  | 11 => ByteArray
  | 12 => S78
  | 13 => S95
  | 14 => S104
  | _ => Unit
def elDfl : (k : Nat) → El k
  | 0 => (z64 : S64)
  | 1 => (z56 : S56)
  | 2 => (z54 : S54)
  | 3 => (z56 : S56)
  | 4 => (0 : Int)
  | 5 => (0 : Int)
  | 6 => (z69 : S69)
  | 7 => (z69 : S69)
  | 8 => (z71 : S71)
  | 9 => (z85 : S85)
  | 10 => (false : Bool)
  | 11 => (⟨#[]⟩ : ByteArray)
  | 12 => (z78 : S78)
  | 13 => (z95 : S95)
  | 14 => (z104 : S104)
  | _ + 15 => ()
def elEnc : (k : Nat) → El k → List (T El)
  | 0, (x : S64) => [.lit (.string x.f0), .lit (.int .i64 x.f1), .row 7 x.f2]
  | 1, (x : S56) => [.lit (.int .i64 x.f0), .lit (.int .i64 x.f1), .lit (.int .i64 x.f2), .lit (.int .i64 x.f3), .lit (.int .i64 x.f4), .lit (.bool x.f5)]
  | 2, (x : S54) => [.lit (.string x.f0), .lit (.int .i64 x.f1), .row 6 x.f2]
  | 3, (x : S56) => [.lit (.int .i64 x.f0), .lit (.int .i64 x.f1), .lit (.int .i64 x.f2), .lit (.int .i64 x.f3), .lit (.int .i64 x.f4), .lit (.bool x.f5)]
  | 4, (x : Int) => [.lit (.int .u8 x)]
  | 5, (x : Int) => [.lit (.int .i64 x)]
  | 6, (x : S69) => [.lit (.int .i64 x.f0), .lit (.int .i64 x.f1), .lit (.int .i64 x.f2), .lit (.int .i64 x.f3)]
  | 7, (x : S69) => [.lit (.int .i64 x.f0), .lit (.int .i64 x.f1), .lit (.int .i64 x.f2), .lit (.int .i64 x.f3)]
  | 8, (x : S71) => [.lit (.int .i64 x.f0), .lit (.int .i64 x.f1), .lit (.int .i64 x.f2)]
  | 9, (x : S85) => [.lit (.int .i64 x.f0), .lit (.int .i64 x.f1), .lit (.int .i64 x.f2)]
  | 10, (x : Bool) => [.lit (.bool x)]
  | 11, (x : ByteArray) => [.lit (.string x)]
  | 12, (x : S78) => [.lit (.int .i64 x.f0), .lit (.int .i64 x.f1), .lit (.int .i64 x.f2)]
  | 13, (x : S95) => [.lit (.int .i64 x.f0), .lit (.int .i64 x.f1), .lit (.bool x.f2)]
  | 14, (x : S104) => [.lit (.string x.f0), .lit (.bool x.f1)]
  | _ + 15, _ => []
def dec0 : List (T El) → Option (El 0)
  | [.lit (.string x0), .lit (.int .i64 x1), .row 7 x2] => some (⟨x0, x1, x2⟩ : S64)
  | _ => none
def dec1 : List (T El) → Option (El 1)
  | [.lit (.int .i64 x0), .lit (.int .i64 x1), .lit (.int .i64 x2), .lit (.int .i64 x3), .lit (.int .i64 x4), .lit (.bool x5)] => some (⟨x0, x1, x2, x3, x4, x5⟩ : S56)
  | _ => none
def dec2 : List (T El) → Option (El 2)
  | [.lit (.string x0), .lit (.int .i64 x1), .row 6 x2] => some (⟨x0, x1, x2⟩ : S54)
  | _ => none
def dec3 : List (T El) → Option (El 3)
  | [.lit (.int .i64 x0), .lit (.int .i64 x1), .lit (.int .i64 x2), .lit (.int .i64 x3), .lit (.int .i64 x4), .lit (.bool x5)] => some (⟨x0, x1, x2, x3, x4, x5⟩ : S56)
  | _ => none
def dec4 : List (T El) → Option (El 4)
  | [.lit (.int .u8 x0)] => some (x0 : Int)
  | _ => none
def dec5 : List (T El) → Option (El 5)
  | [.lit (.int .i64 x0)] => some (x0 : Int)
  | _ => none
def dec6 : List (T El) → Option (El 6)
  | [.lit (.int .i64 x0), .lit (.int .i64 x1), .lit (.int .i64 x2), .lit (.int .i64 x3)] => some (⟨x0, x1, x2, x3⟩ : S69)
  | _ => none
def dec7 : List (T El) → Option (El 7)
  | [.lit (.int .i64 x0), .lit (.int .i64 x1), .lit (.int .i64 x2), .lit (.int .i64 x3)] => some (⟨x0, x1, x2, x3⟩ : S69)
  | _ => none
def dec8 : List (T El) → Option (El 8)
  | [.lit (.int .i64 x0), .lit (.int .i64 x1), .lit (.int .i64 x2)] => some (⟨x0, x1, x2⟩ : S71)
  | _ => none
def dec9 : List (T El) → Option (El 9)
  | [.lit (.int .i64 x0), .lit (.int .i64 x1), .lit (.int .i64 x2)] => some (⟨x0, x1, x2⟩ : S85)
  | _ => none
def dec10 : List (T El) → Option (El 10)
  | [.lit (.bool x0)] => some (x0 : Bool)
  | _ => none
def dec11 : List (T El) → Option (El 11)
  | [.lit (.string x0)] => some (x0 : ByteArray)
  | _ => none
def dec12 : List (T El) → Option (El 12)
  | [.lit (.int .i64 x0), .lit (.int .i64 x1), .lit (.int .i64 x2)] => some (⟨x0, x1, x2⟩ : S78)
  | _ => none
def dec13 : List (T El) → Option (El 13)
  | [.lit (.int .i64 x0), .lit (.int .i64 x1), .lit (.bool x2)] => some (⟨x0, x1, x2⟩ : S95)
  | _ => none
def dec14 : List (T El) → Option (El 14)
  | [.lit (.string x0), .lit (.bool x1)] => some (⟨x0, x1⟩ : S104)
  | _ => none
def elDec : (k : Nat) → List (T El) → Option (El k)
  | 0 => dec0
  | 1 => dec1
  | 2 => dec2
  | 3 => dec3
  | 4 => dec4
  | 5 => dec5
  | 6 => dec6
  | 7 => dec7
  | 8 => dec8
  | 9 => dec9
  | 10 => dec10
  | 11 => dec11
  | 12 => dec12
  | 13 => dec13
  | 14 => dec14
  | _ => fun _ => none
def elTy (k : Nat) : TypeId := look 0 [(0, 65), (1, 77), (2, 55), (3, 57), (4, 5), (5, 3), (6, 70), (7, 114), (8, 72), (9, 86), (10, 4), (11, 9), (12, 78), (13, 95), (14, 104)] k
def elSz (k : Nat) : Nat := look 0 [(0, 3), (1, 6), (2, 3), (3, 6), (4, 1), (5, 1), (6, 4), (7, 4), (8, 3), (9, 3), (10, 1), (11, 1), (12, 3), (13, 3), (14, 2)] k
def elNest (k : Nat) : Bool := look false [(0, true), (2, true)] k
def elMp (k : Nat) : Option (List CK × Bool × Bool) := look none [(12, some ([.int .i64, .int .i64], true, false)), (13, some ([.int .i64, .int .i64], true, false)), (14, some ([.str], false, false))] k
def elByt (k : Nat) : Bool := look false [(4, true)] k
def uni : Uni := { El := El, dfl := elDfl, ty := elTy, sz := elSz, nest := elNest, mp := elMp, byt := elByt, enc := elEnc, dec := elDec }
def tyL : List (Nat × Ty) := [(2, .int .i64), (3, .int .i64), (4, .bool), (5, .int .u8), (6, .int .u8), (7, .agg [(0, 1, false), (1, 1, false), (2, 1, false), (3, 1, false)]), (8, .agg [(0, 1, false), (1, 1, false), (2, 1, false), (3, 1, false)]), (9, .str), (10, .str), (11, .str), (12, .int .u64), (13, .agg [(0, 1, false), (1, 1, false)]), (14, .agg [(0, 1, false), (1, 1, false)]), (18, .agg [(0, 1, false)]), (19, .agg [(0, 1, false)]), (21, .int .i32), (22, .agg [(0, 1, false), (1, 1, false), (2, 1, false)]), (23, .agg [(0, 1, false), (1, 1, false), (2, 1, false)]), (24, .slice 0), (25, .slice 1), (30, .agg [(0, 1, false), (1, 1, false), (2, 1, false)]), (32, .slice 2), (34, .slice 3), (44, .slice 4), (47, .slice 5), (48, .agg [(0, 1, false), (1, 1, false), (2, 1, false), (3, 1, false), (4, 1, false)]), (49, .agg [(0, 1, false), (1, 1, false), (2, 1, false), (3, 1, false), (4, 1, false)]), (53, .slice 6), (54, .agg [(0, 1, false), (1, 1, false), (2, 1, false)]), (55, .agg [(0, 1, false), (1, 1, false), (2, 1, false)]), (56, .agg [(0, 1, false), (1, 1, false), (2, 1, false), (3, 1, false), (4, 1, false), (5, 1, false)]), (57, .agg [(0, 1, false), (1, 1, false), (2, 1, false), (3, 1, false), (4, 1, false), (5, 1, false)]), (63, .slice 7), (64, .agg [(0, 1, false), (1, 1, false), (2, 1, false)]), (65, .agg [(0, 1, false), (1, 1, false), (2, 1, false)]), (67, .slice 8), (69, .agg [(0, 1, false), (1, 1, false), (2, 1, false), (3, 1, false)]), (70, .agg [(0, 1, false), (1, 1, false), (2, 1, false), (3, 1, false)]), (71, .agg [(0, 1, false), (1, 1, false), (2, 1, false)]), (72, .agg [(0, 1, false), (1, 1, false), (2, 1, false)]), (77, .agg [(0, 1, false), (1, 1, false), (2, 1, false), (3, 1, false), (4, 1, false), (5, 1, false)]), (78, .map 12), (79, .slice 9), (81, .agg [(0, 1, false), (1, 1, false)]), (82, .agg [(0, 1, false), (1, 1, false)]), (85, .agg [(0, 1, false), (1, 1, false), (2, 1, false)]), (86, .agg [(0, 1, false), (1, 1, false), (2, 1, false)]), (95, .map 13), (96, .arr 2 1 false), (97, .slice 10), (104, .map 14), (106, .agg [(0, 1, false), (1, 1, false), (2, 1, false)]), (107, .agg [(0, 1, false), (1, 1, false), (2, 1, false)]), (109, .slice 11), (114, .agg [(0, 1, false), (1, 1, false), (2, 1, false), (3, 1, false)]), (121, .int .u64), (122, .agg [(0, 1, false), (1, 1, false)]), (123, .agg [(0, 1, false), (1, 1, false)]), (126, .agg [(0, 1, false), (1, 1, false), (2, 1, false), (3, 1, false)]), (127, .agg [(0, 1, false), (1, 1, false), (2, 1, false), (3, 1, false)]), (131, .int .u32), (132, .int .u8), (133, .int .u8), (136, .int .i32), (137, .int .i32)]
def layL : List (Nat × Option Lay) := [(2, some ⟨1, false, [.int .i64 0]⟩), (3, some ⟨1, false, [.int .i64 0]⟩), (4, some ⟨1, false, [.bool false]⟩), (5, some ⟨1, false, [.int .u8 0]⟩), (6, some ⟨1, false, [.int .u8 0]⟩), (7, some ⟨4, true, [.int .i64 0, .int .i64 0, .bool false, .int .u8 0]⟩), (8, some ⟨4, true, [.int .i64 0, .int .i64 0, .bool false, .int .u8 0]⟩), (9, some ⟨1, false, [.string ⟨#[]⟩]⟩), (10, some ⟨1, false, [.string ⟨#[]⟩]⟩), (11, some ⟨1, false, [.string ⟨#[]⟩]⟩), (12, some ⟨1, false, [.int .u64 0]⟩), (13, some ⟨2, true, [.string ⟨#[]⟩, .int .u64 0]⟩), (14, some ⟨2, true, [.string ⟨#[]⟩, .int .u64 0]⟩), (15, some ⟨1, false, [.pointer none]⟩), (16, some ⟨1, false, [.pointer none]⟩), (17, some ⟨1, false, [.pointer none]⟩), (18, some ⟨1, true, [.pointer none]⟩), (19, some ⟨1, true, [.pointer none]⟩), (21, some ⟨1, false, [.int .i32 0]⟩), (22, some ⟨3, true, [.int .i64 0, .int .i64 0, .int .i64 0]⟩), (23, some ⟨3, true, [.int .i64 0, .int .i64 0, .int .i64 0]⟩), (24, some ⟨1, false, [.slice none 0 0]⟩), (25, some ⟨1, false, [.slice none 0 0]⟩), (30, some ⟨3, true, [.int .i64 0, .int .i64 0, .int .i64 0]⟩), (32, some ⟨1, false, [.slice none 0 0]⟩), (34, some ⟨1, false, [.slice none 0 0]⟩), (44, some ⟨1, false, [.slice none 0 0]⟩), (47, some ⟨1, false, [.slice none 0 0]⟩), (48, some ⟨5, true, [.int .i64 0, .int .i64 0, .int .i64 0, .int .i64 0, .slice none 0 0]⟩), (49, some ⟨5, true, [.int .i64 0, .int .i64 0, .int .i64 0, .int .i64 0, .slice none 0 0]⟩), (53, some ⟨1, false, [.slice none 0 0]⟩), (54, some ⟨3, true, [.string ⟨#[]⟩, .int .i64 0, .slice none 0 0]⟩), (55, some ⟨3, true, [.string ⟨#[]⟩, .int .i64 0, .slice none 0 0]⟩), (56, some ⟨6, true, [.int .i64 0, .int .i64 0, .int .i64 0, .int .i64 0, .int .i64 0, .bool false]⟩), (57, some ⟨6, true, [.int .i64 0, .int .i64 0, .int .i64 0, .int .i64 0, .int .i64 0, .bool false]⟩), (63, some ⟨1, false, [.slice none 0 0]⟩), (64, some ⟨3, true, [.string ⟨#[]⟩, .int .i64 0, .slice none 0 0]⟩), (65, some ⟨3, true, [.string ⟨#[]⟩, .int .i64 0, .slice none 0 0]⟩), (67, some ⟨1, false, [.slice none 0 0]⟩), (69, some ⟨4, true, [.int .i64 0, .int .i64 0, .int .i64 0, .int .i64 0]⟩), (70, some ⟨4, true, [.int .i64 0, .int .i64 0, .int .i64 0, .int .i64 0]⟩), (71, some ⟨3, true, [.int .i64 0, .int .i64 0, .int .i64 0]⟩), (72, some ⟨3, true, [.int .i64 0, .int .i64 0, .int .i64 0]⟩), (77, some ⟨6, true, [.int .i64 0, .int .i64 0, .int .i64 0, .int .i64 0, .int .i64 0, .bool false]⟩), (78, some ⟨1, false, [.map none]⟩), (79, some ⟨1, false, [.slice none 0 0]⟩), (81, some ⟨2, true, [.int .i64 0, .int .i64 0]⟩), (82, some ⟨2, true, [.int .i64 0, .int .i64 0]⟩), (84, some ⟨1, false, [.pointer none]⟩), (85, some ⟨3, true, [.int .i64 0, .int .i64 0, .int .i64 0]⟩), (86, some ⟨3, true, [.int .i64 0, .int .i64 0, .int .i64 0]⟩), (92, some ⟨1, false, [.pointer none]⟩), (95, some ⟨1, false, [.map none]⟩), (96, some ⟨2, true, [.int .i64 0, .int .i64 0]⟩), (97, some ⟨1, false, [.slice none 0 0]⟩), (104, some ⟨1, false, [.map none]⟩), (106, some ⟨3, true, [.slice none 0 0, .int .i64 0, .int .i64 0]⟩), (107, some ⟨3, true, [.slice none 0 0, .int .i64 0, .int .i64 0]⟩), (109, some ⟨1, false, [.slice none 0 0]⟩), (114, some ⟨4, true, [.int .i64 0, .int .i64 0, .int .i64 0, .int .i64 0]⟩), (121, some ⟨1, false, [.int .u64 0]⟩), (122, some ⟨2, true, [.int .u8 0, .int .u8 0]⟩), (123, some ⟨2, true, [.int .u8 0, .int .u8 0]⟩), (126, some ⟨4, true, [.pointer none, .pointer none, .pointer none, .string ⟨#[]⟩]⟩), (127, some ⟨4, true, [.pointer none, .pointer none, .pointer none, .string ⟨#[]⟩]⟩), (131, some ⟨1, false, [.int .u32 0]⟩), (132, some ⟨1, false, [.int .u8 0]⟩), (133, some ⟨1, false, [.int .u8 0]⟩), (135, some ⟨1, false, [.pointer none]⟩), (136, some ⟨1, false, [.int .i32 0]⟩), (137, some ⟨1, false, [.int .i32 0]⟩)]
def cmpL : List (Nat × Option (List CK)) := [(57, some [.int .i64, .int .i64, .int .i64, .int .i64, .int .i64, .bool])]
def tab : Tab := { ty := look .other tyL, lay := look none layL, cmp := look none cmpL }
end Go.Proofs.YtchohkelpjfpcaaDoor.AX

/- What a program reads of its library's tables: the two of unicode/utf8. No conditions. -/
namespace Go.Proofs.YtchohkelpjfpcaaDoor.AX
open Go

/-- The blocks of the tables; what they hold. -/
def doorBs : List Nat := [0, 1]
def Door (w : World) : Prop := Lib.Utf8Tabs 0 1 w
theorem Door.frame {w w' : World} (ha : ∀ b ∈ doorBs, w'.heap[b]? = w.heap[b]?) (h : Door w) : Door w' :=
  ⟨fun c hc => (World.cell?_of_block (ha 0 (by simp [doorBs]))).trans (h.1 c hc), fun i hi => ⟨(World.cell?_of_block (ha 1 (by simp [doorBs]))).trans (h.2 i hi).1, (World.cell?_of_block (ha 1 (by simp [doorBs]))).trans (h.2 i hi).2⟩⟩
theorem Door.lt {w : World} (h : Door w) : ∀ b ∈ doorBs, b < w.heap.size := fun b hb => by
  simp only [doorBs, List.mem_cons, List.not_mem_nil, or_false] at hb
  rcases hb with rfl | rfl
  · exact block_lt_of_cell (h.1 0 (by omega))
  · exact block_lt_of_cell (h.2 0 (by omega)).1

/-- The tables stand, and none of these blocks is theirs. -/
def DoorOk (w : World) (bs : List Nat) : Prop := Door w ∧ ∀ b ∈ bs, b ∉ doorBs
theorem DoorOk.none {w : World} (h : Door w) : DoorOk w [] := ⟨h, fun b hb => absurd hb (by simp)⟩

end Go.Proofs.YtchohkelpjfpcaaDoor.AX

/- Rows of one's own: a mark that a conversion lays may stand behind their last cell. No conditions. -/
namespace Go.Proofs.YtchohkelpjfpcaaDoor.AX
open Go

theorem alloc_old (w : World) (o : Obj) (k : Nat) (h : k < w.heap.size) : (w.alloc o).heap[k]? = w.heap[k]? := by
  first | exact heap_alloc_old w o k h | exact heap_alloc_old w o h

/-- No cell of n is frozen. -/
def Soft (fz : Nat × Nat) (n : Nat) : Prop := fz.2 = fz.1 ∨ n ≤ fz.1

def OwnR (w : World) (e : TypeId) (size : Nat) (v : Value) (n : Nat) (xs : List Value) : Prop :=
  xs.length = n * size ∧ ((v = .slice none 0 0 ∧ n = 0) ∨
    ∃ g cap cur fz, v = .slice (some ⟨g, 0, none⟩) n cap ∧ w.heap[g]? = some (.cells cur e fz) ∧ Soft fz cur.size ∧ n ≤ cap ∧ cap ≤ maxLen ∧ cur.size = cap * size ∧ cur.toList.take (n * size) = xs)

section
variable {w : World} {e : TypeId} {size : Nat} {v : Value} {n : Nat} {xs : List Value}

theorem OwnR.of (h : w.ownsRow 0 e size v n xs) : OwnR w e size v n xs := by
  refine ⟨h.1, ?_⟩
  rcases h.2 with h | ⟨g, cap, cur, h1, _, h2, r⟩
  · exact .inl h
  · exact .inr ⟨g, cap, cur, (0, 0), h1, h2, .inl rfl, r⟩

theorem soft_frozen {g j : Nat} {cur : Array Value} {fz : Nat × Nat} (hg : w.heap[g]? = some (.cells cur e fz)) (hs : Soft fz cur.size) (hj : j < cur.size) : w.frozen? ⟨g, j, none⟩ = false := by
  obtain ⟨lo, hi⟩ := fz
  simp only [World.frozen?, hg, Bool.and_eq_false_iff, decide_eq_false_iff_not]
  unfold Soft at hs
  simp only at hs
  omega

variable {g cap : Nat}

theorem OwnR.cellAt (h : OwnR w e size (.slice (some ⟨g, 0, none⟩) n cap) n xs) (j : Nat) (hj : j < n * size) : w.cell? ⟨g, j, none⟩ = xs[j]? := by
  rcases h.2 with ⟨h', _⟩ | ⟨g', cap', cur, fz, h', hg, _, _, _, _, htake⟩
  · simp at h'
  · simp only [Value.slice.injEq, Option.some.injEq, Addr.mk.injEq, and_true, true_and] at h'
    obtain ⟨rfl, rfl⟩ := h'
    rw [cell_of_row w g j cur e fz hg, ← htake, List.getElem?_take, if_pos hj]
    simp

theorem OwnR.frozenAt (h : OwnR w e size (.slice (some ⟨g, 0, none⟩) n cap) n xs) (j : Nat) (hj : j < n * size) : w.frozen? ⟨g, j, none⟩ = false := by
  rcases h.2 with ⟨h', _⟩ | ⟨g', cap', cur, fz, h', hg, hs, hn, _, hc, _⟩
  · simp at h'
  · simp only [Value.slice.injEq, Option.some.injEq, Addr.mk.injEq, and_true, true_and] at h'
    obtain ⟨rfl, rfl⟩ := h'
    have : n * size ≤ cap * size := Nat.mul_le_mul_right _ hn
    exact soft_frozen hg hs (by omega)

theorem OwnR.cells (h : OwnR w e size v n xs) {g : Nat} (hg : v.ownBlock = some g) : ∀ j u, xs[j]? = some u → w.cell? ((⟨g, 0, none⟩ : Addr).add j) = some u := by
  intro j u hu
  rcases h.2 with ⟨rfl, _⟩ | ⟨g', cap, cur, fz, rfl, hgg, _, _, _, _, htake⟩
  · simp [Value.ownBlock] at hg
  · simp [Value.ownBlock] at hg
    subst hg
    have hadd : (⟨g', 0, none⟩ : Addr).add j = ⟨g', j, none⟩ := by unfold Addr.add; split <;> simp_all
    rw [hadd, cell_of_row w g' j cur e fz hgg]
    rw [← htake, List.getElem?_take] at hu
    split at hu
    · simpa using hu
    · cases hu
end

/-- A run of stores into a row no cell of which is frozen. -/
theorem run_storeCells_soft (P : Program) (g o : Nat) (t : TypeId) (fz : Nat × Nat) : ∀ (vs : List Value) (i : Nat) (cur : Array Value) (w : World), w.heap[g]? = some (.cells cur t fz) → Soft fz cur.size → o + i + vs.length ≤ cur.size → (∀ v ∈ vs, v.oneCell' = true) →
    (storeCells ⟨g, o, none⟩ vs i).run P w = .ok () (w.setRow g (cur.toList.take (o + i) ++ vs ++ cur.toList.drop (o + i + vs.length)).toArray)
  | [], i, cur, w, hg, _, _, _ => by
    simp only [storeCells, List.append_nil, List.length_nil, Nat.add_zero, List.take_append_drop, Array.toArray_toList]
    rw [setRow_self w g cur t fz hg]
    rfl
  | v :: rest, i, cur, w, hg, hfz, hl, h1 => by
    have hi : o + i < cur.size := by simp at hl; omega
    have hadd : (⟨g, o, none⟩ : Addr).add i = ⟨g, o + i, none⟩ := by unfold Addr.add; split <;> simp_all
    have hcell : w.cell? ⟨g, o + i, none⟩ = some cur[o + i] := by simp [World.cell?, hg, hi]
    have hfro : w.frozen? ⟨g, o + i, none⟩ = false := soft_frozen hg hfz hi
    have hst : (store ((⟨g, o, none⟩ : Addr).add i) v).run P w = .ok () (w.setRow g (cur.setIfInBounds (o + i) v)) := by
      rw [hadd, run_store P w _ v _ (h1 v (by simp)), hcell]
      simp [hfro, setCell_eq_setRow w g (o + i) cur t fz v hg]
    have ih := run_storeCells_soft P g o t fz rest (i + 1) (cur.setIfInBounds (o + i) v) (w.setRow g (cur.setIfInBounds (o + i) v)) (setRow_heap w g cur _ t _ hg) (by simpa using hfz) (by simp at hl ⊢; omega) (fun x hx => h1 x (by simp [hx]))
    simp only [storeCells, Sem.run_bind, hst, Result.andThen_ok, ih, setRow_setRow]
    congr 3
    have e := list_seg_step cur.toList (o + i) v rest (by simp at hl ⊢; omega)
    simpa [Array.toList_setIfInBounds, Nat.add_assoc] using e

section
variable {P : Program} (w : World)

theorem run_append_room_soft (t ty e : TypeId) (i : TypeInfo) (ht : P.underlying t = some (.slice e)) (hi : P.info? e = some i)
    (g sLen sCap : Nat) (cur : Array Value) (fz : Nat × Nat) (hg : w.heap[g]? = some (.cells cur e fz)) (hfz : Soft fz cur.size)
    (a : Addr) (m c : Nat) (news : List Value) (hl : news.length = m * i.size) (hnews : ∀ j u, news[j]? = some u → w.cell? (a.add j) = some u) (h1 : ∀ u ∈ news, u.oneCell' = true)
    (hroom : sLen + m ≤ sCap) (hfit : sLen * i.size + news.length ≤ cur.size) :
    (Builtin.append_ #[t, t] ty #[.slice (some ⟨g, 0, none⟩) sLen sCap, .slice (some a) m c]).run P w =
      .ok (.slice (some ⟨g, 0, none⟩) (sLen + m) sCap) (w.setRow g (cur.toList.take (sLen * i.size) ++ news ++ cur.toList.drop (sLen * i.size + news.length)).toArray) := by
  have hf := run_firstCells_some (P := P) w i.size m a m c news hl hnews
  have hst := run_storeCells_soft P g (sLen * i.size) e fz news 0 cur w hg hfz (by simpa using hfit) h1
  simp only [Nat.add_zero] at hst
  simp [Builtin.append_, run_underlying ht, sizeOf, typeInfo, hi, Builtin.lenOf, hroom, hf, Addr.add_lit, hst]

theorem run_append_room_soft_str (t u ty e : TypeId) (i : TypeInfo) (ht : P.underlying t = some (.slice e)) (hu : P.underlying u = some .string) (hi : P.info? e = some i) (hs1 : i.size = 1)
    (g sLen sCap : Nat) (cur : Array Value) (fz : Nat × Nat) (hg : w.heap[g]? = some (.cells cur e fz)) (hfz : Soft fz cur.size) (s : ByteArray)
    (hroom : sLen + s.size ≤ sCap) (hfit : sLen + s.size ≤ cur.size) :
    (Builtin.append_ #[t, u] ty #[.slice (some ⟨g, 0, none⟩) sLen sCap, .string s]).run P w =
      .ok (.slice (some ⟨g, 0, none⟩) (sLen + s.size) sCap) (w.setRow g (cur.toList.take sLen ++ Lib.strCells s ++ cur.toList.drop (sLen + s.size)).toArray) := by
  have hf := Lib.run_firstCells_string (P := P) w 1 s
  have hst := run_storeCells_soft P g sLen e fz (Lib.strCells s) 0 cur w hg hfz (by simpa [Lib.strCells_length] using hfit) (Lib.strCells_oneCell s)
  simp only [Nat.add_zero, Lib.strCells_length] at hst
  simp [Builtin.append_, run_underlying ht, run_underlying hu, sizeOf, typeInfo, hi, hs1, Builtin.lenOf, hroom, hf, Addr.add_lit, hst]

/-- The arm with room leaves a row of one's own. -/
theorem own_room {e : TypeId} {size n m cap g : Nat} {cur : Array Value} {fz : Nat × Nat} {xs news : List Value} (hsz : 0 < size) (hg : w.heap[g]? = some (.cells cur e fz)) (hfz : Soft fz cur.size) (hcs : cur.size = cap * size) (hcm : cap ≤ maxLen) (hxl : xs.length = n * size)
    (htake : cur.toList.take (n * size) = xs) (hl : news.length = m * size) (hroom : n + m ≤ cap) :
    OwnR (w.setRow g (cur.toList.take (n * size) ++ news ++ cur.toList.drop (n * size + news.length)).toArray) e size (.slice (some ⟨g, 0, none⟩) (n + m) cap) (n + m) (xs ++ news) ∧
      w.grownBy (w.setRow g (cur.toList.take (n * size) ++ news ++ cur.toList.drop (n * size + news.length)).toArray) (some g) := by
  have hlen : (xs ++ news).length = (n + m) * size := by rw [List.length_append, hxl, hl, Nat.add_mul]
  have hfit : n * size + news.length ≤ cur.size := by rw [hl, hcs, ← Nat.add_mul]; exact Nat.mul_le_mul_right _ hroom
  have hsize : (cur.toList.take (n * size) ++ news ++ cur.toList.drop (n * size + news.length)).toArray.size = cur.size := by
    simp only [List.size_toArray, List.length_append, List.length_take, List.length_drop, Array.length_toList]
    omega
  refine ⟨⟨hlen, .inr ⟨g, cap, _, fz, rfl, setRow_heap w g cur _ e _ hg, by rw [hsize]; exact hfz, hroom, hcm, by rw [hsize]; exact hcs, ?_⟩⟩, ⟨rfl, rfl, rfl, by simp, fun k _ hk => setRow_other w g k _ (fun e => hk (by simp [e]))⟩⟩
  rw [htake, ← hlen]
  exact List.take_left

theorem run_append_ownR (t ty e : TypeId) (i : TypeInfo) (z : Value) (size bytes : Nat) (ht : P.underlying t = some (.slice e)) (hi : P.info? e = some i) (hz : i.zero = some z)
    (hsize : i.size = size) (hby : i.bytes = bytes) (hzs : z.cells.size = size) (hsz : 0 < size)
    (v : Value) (n : Nat) (xs : List Value) (hown : OwnR w e size v n xs)
    (a : Addr) (m c : Nat) (news : List Value) (hl : news.length = m * size) (hnews : ∀ j u, news[j]? = some u → w.cell? (a.add j) = some u) (h1 : ∀ u ∈ news, u.oneCell' = true)
    (h63 : n + m ≤ maxLen) (hbytes : (n + m) * bytes ≤ 140737488355328) :
    ∃ v' w', (Builtin.append_ #[t, t] ty #[v, .slice (some a) m c]).run P w = .ok v' w' ∧ OwnR w' e size v' (n + m) (xs ++ news) ∧ w.grownBy w' v.ownBlock ∧ (v'.ownBlock = v.ownBlock ∨ v'.ownBlock = some w.heap.size) := by
  rcases hown.2 with ⟨rfl, rfl⟩ | ⟨g, cap, cur, fz, rfl, hg, hfz, hnc, hcm, hcs, htake⟩
  · obtain ⟨v', w', r1, r2, r3, _, r5⟩ := run_append_own_at (P := P) w 0 t ty e i z size bytes ht hi hz hsize hby hzs hsz (.slice none 0 0) 0 xs ⟨hown.1, .inl ⟨rfl, rfl⟩⟩ a m c news hl hnews h1 h63 hbytes (Nat.zero_le _)
    exact ⟨v', w', r1, .of r2, r3, r5⟩
  · subst hsize
    subst hby
    have hsmall : n + m ≤ 9223372036854775807 := by simp only [maxLen] at h63; omega
    have hlen : (xs ++ news).length = (n + m) * i.size := by rw [List.length_append, hown.1, hl, Nat.add_mul]
    by_cases hroom : n + m ≤ cap
    · have hfit : n * i.size + news.length ≤ cur.size := by rw [hl, hcs, ← Nat.add_mul]; exact Nat.mul_le_mul_right _ hroom
      have hr := run_append_room_soft (P := P) w t ty e i ht hi g n cap cur fz hg hfz a m c news hl hnews h1 hroom hfit
      have h := own_room w hsz hg hfz hcs hcm hown.1 htake hl hroom
      exact ⟨_, _, hr, h.1, h.2, .inl rfl⟩
    · have holds : ∀ j u, xs[j]? = some u → w.cell? ((⟨g, 0, none⟩ : Addr).add j) = some u := hown.cells (g := g) rfl
      have hr := run_append_grow (P := P) w t ty e i z ht hi hz ⟨g, 0, none⟩ n cap xs hown.1 holds a m c news hl hnews (by omega) (by omega) (growslice_fits (by omega) hbytes)
      have hge := grownCap_ge w (n + m) cap e
      have hcm2 : grownCap w (n + m) cap e ≤ maxLen := grownCap_le_maxLen w (n + m) cap e h63
      refine ⟨_, _, hr, ⟨hlen, .inr ⟨w.heap.size, _, _, (0, 0), rfl, heap_alloc_new w.drew _, .inl rfl, hge, hcm2, ?_, ?_⟩⟩, ⟨rfl, rfl, rfl, by simp, fun k hk _ => alloc_old w.drew _ k hk⟩, .inr rfl⟩
      · simp only [Array.size_append, List.size_toArray, size_zeroCells, hzs, hown.1, hl, ← Nat.add_mul]
        congr 1
        omega
      · simp only [Array.toList_append, List.append_assoc]
        rw [← List.append_assoc, ← hlen]
        exact List.take_left

theorem run_append_ownR_str (t u ty e : TypeId) (i : TypeInfo) (z : Value) (bytes : Nat) (ht : P.underlying t = some (.slice e)) (hu : P.underlying u = some .string) (hi : P.info? e = some i) (hz : i.zero = some z)
    (hsize : i.size = 1) (hby : i.bytes = bytes) (hzs : z.cells.size = 1)
    (v : Value) (n : Nat) (xs : List Value) (hown : OwnR w e 1 v n xs) (s : ByteArray) (h63 : n + s.size ≤ maxLen) (hbytes : (n + s.size) * bytes ≤ 140737488355328) :
    ∃ v' w', (Builtin.append_ #[t, u] ty #[v, .string s]).run P w = .ok v' w' ∧ OwnR w' e 1 v' (n + s.size) (xs ++ Lib.strCells s) ∧ w.grownBy w' v.ownBlock ∧ (v'.ownBlock = v.ownBlock ∨ v'.ownBlock = some w.heap.size) := by
  subst hby
  have hsl := Lib.strCells_length s
  have hsmall : n + s.size ≤ 9223372036854775807 := by simp only [maxLen] at h63; omega
  have hlen : (xs ++ Lib.strCells s).length = (n + s.size) * 1 := by rw [List.length_append, hown.1, hsl]; omega
  rcases hown.2 with ⟨rfl, rfl⟩ | ⟨g, cap, cur, fz, rfl, hg, hfz, hnc, hcm, hcs, htake⟩
  · have hx : xs = [] := List.eq_nil_of_length_eq_zero (by simpa using hown.1)
    subst hx
    by_cases hm : s.size = 0
    · have hn : Lib.strCells s = [] := List.eq_nil_of_length_eq_zero (by rw [hsl]; exact hm)
      refine ⟨.slice none 0 0, w, ?_, by rw [hm, hn]; exact ⟨by simp, .inl ⟨rfl, rfl⟩⟩, ⟨rfl, rfl, rfl, Nat.le_refl _, fun _ _ _ => rfl⟩, .inl rfl⟩
      have hf := Lib.run_firstCells_string (P := P) w 1 s
      rw [hm] at hf
      simp [Builtin.append_, run_underlying ht, run_underlying hu, sizeOf, typeInfo, hi, hsize, Builtin.lenOf, hm, hf]
    · have hr := run_append_nil_string (P := P) w t u ty e i z ht hu hi hz s (by omega) (by omega) (by simp only [Nat.zero_add] at hbytes; omega)
      have hge := grownCap_ge w s.size 0 e
      have hcm2 : grownCap w s.size 0 e ≤ maxLen := grownCap_le_maxLen w s.size 0 e (by omega)
      have e1 : (s.data.map fun b => Value.int .u8 b.toNat) = (Lib.strCells s).toArray := by
        apply Array.ext'
        simp [Lib.strCells]
      rw [e1] at hr
      simp only [Nat.zero_add, List.nil_append] at hlen ⊢
      refine ⟨_, _, hr, ⟨hlen, .inr ⟨w.heap.size, _, _, (0, 0), rfl, heap_alloc_new w.drew _, .inl rfl, hge, hcm2, ?_, ?_⟩⟩, ⟨rfl, rfl, rfl, by simp, fun k hk _ => alloc_old w.drew _ k hk⟩, .inr rfl⟩
      · simp only [Array.size_append, List.size_toArray, size_zeroCells, hzs, hsl]
        omega
      · simp only [Array.toList_append]
        rw [← hlen]
        exact List.take_left
  · by_cases hroom : n + s.size ≤ cap
    · have hfit : n + s.size ≤ cur.size := by rw [hcs]; omega
      have hr := run_append_room_soft_str (P := P) w t u ty e i ht hu hi hsize g n cap cur fz hg hfz s hroom hfit
      have h := own_room w (size := 1) (m := s.size) (news := Lib.strCells s) (by omega) hg hfz hcs hcm hown.1 htake (by rw [hsl]; omega) hroom
      rw [Nat.mul_one, hsl] at h
      exact ⟨_, _, hr, h.1, h.2, .inl rfl⟩
    · have holds : ∀ j u, xs[j]? = some u → w.cell? ((⟨g, 0, none⟩ : Addr).add j) = some u := hown.cells (g := g) rfl
      have hr := Lib.run_append_grow_string (P := P) w t u ty e i z ht hu hi hz ⟨g, 0, none⟩ n cap xs (by rw [hsize]; exact hown.1) holds s (by omega) (by omega) (growslice_fits (by omega) hbytes)
      have hge := grownCap_ge w (n + s.size) cap e
      have hcm2 : grownCap w (n + s.size) cap e ≤ maxLen := grownCap_le_maxLen w (n + s.size) cap e h63
      refine ⟨_, _, hr, ⟨hlen, .inr ⟨w.heap.size, _, _, (0, 0), rfl, heap_alloc_new w.drew _, .inl rfl, hge, hcm2, ?_, ?_⟩⟩, ⟨rfl, rfl, rfl, by simp, fun k hk _ => alloc_old w.drew _ k hk⟩, .inr rfl⟩
      · have hxl := hown.1
        simp only [Array.size_append, List.size_toArray, size_zeroCells, hzs, hsl]
        omega
      · simp only [Array.toList_append, List.append_assoc]
        rw [← List.append_assoc, ← hlen]
        exact List.take_left

/-- '[]byte(s)': a row of one's own. -/
theorem run_bytes_ownR (src dst e : TypeId) (s : ByteArray) {u : TypeDesc} (hs : P.underlying src = some u) (hd : P.underlying dst = some (.slice e)) (he : P.underlying e = some (.int .u8)) (h63 : s.size ≤ maxLen) :
    ∃ v' w', (convert src dst (.string s)).run P w = .ok v' w' ∧ OwnR w' e 1 v' s.size (Lib.strCells s) ∧ w.grownBy w' none ∧ v'.ownBlock = some w.heap.size := by
  have hge := grownCap_ge w s.size 0 e
  have hsl := Lib.strCells_length s
  have hbs : (Lib.bytesCells w e s).size = grownCap w s.size 0 e := by
    simp only [Lib.bytesCells, Array.size_append, Array.size_map, Array.size_replicate]
    have : s.data.size = s.size := rfl
    omega
  refine ⟨_, _, Lib.run_convert_string_bytes w src dst e s hs hd he, ⟨by rw [hsl]; omega, .inr ⟨w.heap.size, _, _, _, rfl, Lib.bytesWorld_at_new w e s, .inr (Nat.le_refl _), hge, grownCap_le_maxLen w s.size 0 e h63, by rw [hbs]; omega, ?_⟩⟩,
    ⟨?_, ?_, ?_, by rw [Lib.bytesWorld_size]; omega, fun k hk _ => Lib.bytesWorld_at_old w e s k hk⟩, rfl⟩
  · simp only [Lib.bytesCells, Array.toList_append, Array.toList_map]
    rw [List.take_append_of_le_length (by simp only [List.length_map, Array.length_toList]; have : s.data.size = s.size := rfl; omega)]
    rw [List.take_of_length_le (by simp only [List.length_map, Array.length_toList]; have : s.data.size = s.size := rfl; omega)]
    rfl
  · simp only [Lib.bytesWorld, World.freeze]; split <;> rfl
  · simp only [Lib.bytesWorld, World.freeze]; split <;> rfl
  · simp only [Lib.bytesWorld, World.freeze]; split <;> rfl

/-- The mark itself. -/
theorem freeze_own {e : TypeId} {size g n cap : Nat} {cur : Array Value} {fz : Nat × Nat} {xs : List Value} (hg : w.heap[g]? = some (.cells cur e fz)) (hfz : Soft fz cur.size) (hn : n ≤ cap) (hcm : cap ≤ maxLen) (hcs : cur.size = cap * size) (htake : cur.toList.take (n * size) = xs) (hl : xs.length = n * size) :
    OwnR (w.freeze ⟨g, cur.size, none⟩ 1) e size (.slice (some ⟨g, 0, none⟩) n cap) n xs ∧ w.grownBy (w.freeze ⟨g, cur.size, none⟩ 1) (some g) := by
  obtain ⟨lo, hi⟩ := fz
  have hlt : g < w.heap.size := (Array.getElem?_eq_some_iff.1 hg).1
  have hnew : (w.freeze ⟨g, cur.size, none⟩ 1).heap[g]? = some (.cells cur e (if lo == hi then (cur.size, cur.size + 1) else (min lo cur.size, max hi (cur.size + 1)))) := by
    simp only [World.freeze, if_neg (show ¬ (1 : Nat) = 0 by omega), Array.getElem?_modify, hg]
    simp
  refine ⟨⟨hl, .inr ⟨g, cap, cur, _, rfl, hnew, ?_, hn, hcm, hcs, htake⟩⟩, ⟨?_, ?_, ?_, ?_, fun k hk hne => ?_⟩⟩
  · unfold Soft at hfz ⊢
    by_cases e : lo = hi
    · subst e; simp
    · have : (lo == hi) = false := by simpa using e
      rw [this]
      simp only [Bool.false_eq_true, if_false] at hfz ⊢
      omega
  · simp only [World.freeze]; split <;> rfl
  · simp only [World.freeze]; split <;> rfl
  · simp only [World.freeze]; split <;> rfl
  · simp only [World.freeze]; split
    · exact Nat.le_refl _
    · simp
  · have hkg : g ≠ k := fun e => hne (by rw [e])
    simp only [World.freeze, if_neg (show ¬ (1 : Nat) = 0 by omega), Array.getElem?_modify, if_neg hkg]

/-- '[]byte' of what is one: the mark of a conversion. -/
theorem run_mark_own {t e : TypeId} (ht : P.underlying t = some (.slice e)) (he : P.underlying e = some (.int .u8)) {g n cap : Nat} {cur : Array Value} {fz : Nat × Nat} (hg : w.heap[g]? = some (.cells cur e fz)) :
    (convert t t (.slice (some ⟨g, 0, none⟩) n cap)).run P w = .ok (.slice (some ⟨g, 0, none⟩) n cap) (w.freeze ⟨g, cur.size, none⟩ 1) := by
  have hsh : w.shape? g = some (e, cur.size) := by simp [World.shape?, hg]
  simp [convert, run_underlying ht, run_underlying he, markStringish, hsh]
end
end Go.Proofs.YtchohkelpjfpcaaDoor.AX

/- How the small machine's values lie in the world. No conditions. -/
namespace Go.Proofs.YtchohkelpjfpcaaDoor.AX
open Go Go.RowKit

def ownB : Value → List Nat
  | .slice (some a) _ _ => [a.block]
  | _ => []

def agree (w w' : World) (F : List Nat) : Prop := ∀ b ∈ F, w'.heap[b]? = w.heap[b]?
theorem agree.sub {w w' : World} {F G : List Nat} (h : agree w w' F) (hs : ∀ b ∈ G, b ∈ F) : agree w w' G := fun b hb => h b (hs b hb)
theorem agree.cell {w w' : World} {F : List Nat} (h : agree w w' F) {a : Addr} (ha : a.block ∈ F) : w'.cell? a = w.cell? a := World.cell?_of_block (h _ ha)

/-- n elements of size sz at the slice v: their cells; the blocks that they lie in. -/
def RowAt (own : Bool) (w : World) (e : TypeId) (sz : Nat) (v : Value) (n : Nat) (cells : List Value) (B : List Nat) : Prop :=
  match own with
  | true => OwnR w e sz v n cells ∧ B = ownB v
  | false => ∃ A cap, v = .slice A n cap ∧ n ≤ cap ∧ cap ≤ maxLen ∧ cells.length = n * sz ∧ B = (if cells = [] then [] else ownB v) ∧
      (cells ≠ [] → ∃ a, A = some a ∧ ∀ j u, cells[j]? = some u → w.cell? (a.add j) = some u)

theorem RowAt.frame {own : Bool} {w w' : World} {e : TypeId} {sz : Nat} {v : Value} {n : Nat} {cells : List Value} {B : List Nat} (h : RowAt own w e sz v n cells B) (hb : agree w w' B) : RowAt own w' e sz v n cells B := by
  cases own with
  | true =>
    obtain ⟨⟨h1, h2⟩, rfl⟩ := h
    refine ⟨⟨h1, ?_⟩, rfl⟩
    rcases h2 with h2 | ⟨g, cap, cur, fz, hv, hh, r⟩
    · exact .inl h2
    · subst hv
      exact .inr ⟨g, cap, cur, fz, rfl, (hb g (by simp [ownB])).trans hh, r⟩
  | false =>
    obtain ⟨A, cap, rfl, h1, h1', h2, hB, h3⟩ := h
    refine ⟨A, cap, rfl, h1, h1', h2, hB, fun hne => ?_⟩
    obtain ⟨a, rfl, h4⟩ := h3 hne
    refine ⟨a, rfl, fun j u hj => ?_⟩
    rw [agree.cell hb]
    · exact h4 j u hj
    · rw [hB, if_neg hne]
      have : (a.add j).block = a.block := by unfold Addr.add; split <;> rfl
      simp [ownB, this]

theorem add_block (a : Addr) (j : Nat) : (a.add j).block = a.block := by unfold Addr.add; split <;> rfl

theorem RowAt.len {own : Bool} {w : World} {e : TypeId} {sz : Nat} {v : Value} {n : Nat} {cells : List Value} {B : List Nat} (h : RowAt own w e sz v n cells B) : cells.length = n * sz := by
  cases own with
  | true => exact h.1.1
  | false => obtain ⟨A, cap, rfl, h1, h1', h2, hB, h3⟩ := h; exact h2

/-- A row is a slice of its length. -/
theorem RowAt.slice {own : Bool} {w : World} {e : TypeId} {sz : Nat} {v : Value} {n : Nat} {cells : List Value} {B : List Nat} (h : RowAt own w e sz v n cells B) : ∃ A cap, v = .slice A n cap ∧ n ≤ cap ∧ cap ≤ maxLen := by
  cases own with
  | true =>
    obtain ⟨⟨h1, h2⟩, rfl⟩ := h
    rcases h2 with ⟨rfl, rfl⟩ | ⟨g, cap, cur, fz, hv, hh, hs, r1, r2, r⟩
    · exact ⟨none, 0, rfl, Nat.le_refl _, by unfold maxLen; omega⟩
    · exact ⟨_, cap, hv, r1, r2⟩
  | false => obtain ⟨A, cap, rfl, h1, h1', h2, hB, h3⟩ := h; exact ⟨A, cap, rfl, h1, h1'⟩

/-- A cell of a row. -/
theorem RowAt.cell {own : Bool} {w : World} {e : TypeId} {sz : Nat} {v : Value} {n : Nat} {cells : List Value} {B : List Nat} (h : RowAt own w e sz v n cells B) {j : Nat} {u : Value} (hj : cells[j]? = some u) :
    ∃ a cap, v = .slice (some a) n cap ∧ a.block ∈ B ∧ w.cell? (a.add j) = some u ∧ (own = true → w.frozen? (a.add j) = false ∧ a.off = 0 ∧ a.spot = none) := by
  have hjl : j < cells.length := by
    rcases Nat.lt_or_ge j cells.length with h | h
    · exact h
    · simp [List.getElem?_eq_none h] at hj
  cases own with
  | true =>
    obtain ⟨⟨h1, h2⟩, rfl⟩ := h
    rcases h2 with ⟨rfl, rfl⟩ | ⟨g, cap, cur, fz, hv, hh, r⟩
    · simp at h1; rw [h1] at hj; simp at hj
    · subst hv
      have hadd : (⟨g, 0, none⟩ : Addr).add j = ⟨g, j, none⟩ := by
        unfold Addr.add; split
        · rename_i e; rw [e]
        · simp
      have ho : OwnR w e sz (.slice (some ⟨g, 0, none⟩) n cap) n cells := ⟨h1, .inr ⟨g, cap, cur, fz, rfl, hh, r⟩⟩
      refine ⟨⟨g, 0, none⟩, cap, rfl, by simp [ownB], ?_, fun _ => ⟨?_, rfl, rfl⟩⟩
      · rw [hadd, ho.cellAt j (by omega)]; exact hj
      · rw [hadd]; exact ho.frozenAt j (by omega)
  | false =>
    obtain ⟨A, cap, rfl, h1, h1', h2, hB, h3⟩ := h
    have hne : cells ≠ [] := by rintro rfl; simp at hjl
    obtain ⟨a, rfl, h4⟩ := h3 hne
    exact ⟨a, cap, rfl, by rw [hB, if_neg hne]; simp [ownB], h4 j u hj, fun h => by simp at h⟩

theorem RowAt.lt {own : Bool} {w : World} {e : TypeId} {sz : Nat} {v : Value} {n : Nat} {cells : List Value} {B : List Nat} (h : RowAt own w e sz v n cells B) : ∀ b ∈ B, b < w.heap.size := by
  intro b hb
  cases own with
  | true =>
    obtain ⟨⟨h1, h2⟩, rfl⟩ := h
    rcases h2 with ⟨rfl, rfl⟩ | ⟨g, cap, cur, fz, hv, hh, r⟩
    · simp [ownB] at hb
    · subst hv
      simp [ownB] at hb; subst hb
      rcases Nat.lt_or_ge b w.heap.size with h | h
      · exact h
      · simp [Array.getElem?_eq_none h] at hh
  | false =>
    obtain ⟨A, cap, rfl, h1, h1', h2, hB, h3⟩ := h
    by_cases hne : cells = []
    · rw [hB, if_pos hne] at hb; simp at hb
    · obtain ⟨a, rfl, h4⟩ := h3 hne
      rw [hB, if_neg hne] at hb
      simp [ownB] at hb; subst hb
      obtain ⟨c, r, rfl⟩ := List.exists_cons_of_ne_nil hne
      have := block_lt_of_cell (h4 0 c rfl)
      rwa [add_block] at this

theorem RowAt.read {w : World} {e : TypeId} {sz : Nat} {v : Value} {n : Nat} {cells : List Value} {B : List Nat} (h : RowAt true w e sz v n cells B) : ∃ B', RowAt false w e sz v n cells B' ∧ ∀ b ∈ B', b ∈ B := by
  obtain ⟨A, cap, rfl, hc, hc'⟩ := h.slice
  refine ⟨if cells = [] then [] else ownB (.slice A n cap), ⟨A, cap, rfl, hc, hc', h.len, rfl, fun hne => ?_⟩, ?_⟩
  · obtain ⟨c, r, e⟩ := List.exists_cons_of_ne_nil hne
    obtain ⟨a, cap', e', _, _, _⟩ := h.cell (j := 0) (u := c) (by rw [e]; rfl)
    injection e' with e1 e2 e3
    subst e1
    refine ⟨a, rfl, fun j u hj => ?_⟩
    obtain ⟨a', cap2, e2', _, hcell, _⟩ := h.cell hj
    injection e2' with e1 _ _
    injection e1 with e1; subst e1
    exact hcell
  · intro b hb
    split at hb
    · simp at hb
    · rw [h.2]; exact hb

section
variable {U : Uni}

def RepL (R : Value → T U.El → List Nat → Prop) : List Value → List (T U.El) → List Nat → Prop
  | [], [], F => F = []
  | v :: vs, t :: ts, F => ∃ F1 F2, R v t F1 ∧ RepL R vs ts F2 ∧ F = F1 ++ F2
  | _, _, _ => False

def RepT (own : Bool) : Nat → World → Value → T U.El → List Nat → Prop
  | _, _, v, .lit x, F => v = x ∧ F = []
  | 0, _, _, .row _ _, _ => False
  | d + 1, w, v, .row k l, F => ∃ cells B G, RowAt own w (U.ty k) (U.sz k) v l.length cells B ∧ RepL (RepT own d w) cells (l.flatMap (U.enc k)) G ∧ F = B ++ G ∧ (own = true → F.Nodup)

theorem RepL.imp {R R' : Value → T U.El → List Nat → Prop} : ∀ {vs : List Value} {ts : List (T U.El)} {F : List Nat}, RepL R vs ts F → (∀ v t G, R v t G → (∀ b ∈ G, b ∈ F) → R' v t G) → RepL R' vs ts F
  | [], [], _, h, _ => h
  | v :: vs, t :: ts, F, ⟨F1, F2, h1, h2, e⟩, hi => ⟨F1, F2, hi _ _ _ h1 (by subst e; intro b hb; simp [hb]), h2.imp fun v t G h hb => hi v t G h (by subst e; intro b hx; simp [hb b hx]), e⟩

theorem RepT.frame {own : Bool} : ∀ {d : Nat} {w w' : World} {v : Value} {t : T U.El} {F : List Nat}, RepT own d w v t F → agree w w' F → RepT own d w' v t F
  | 0, _, _, _, .lit _, _, h, _ => h
  | _ + 1, _, _, _, .lit _, _, h, _ => h
  | 0, _, _, _, .row _ _, _, h, _ => h.elim
  | d + 1, w, w', v, .row k l, F, ⟨cells, B, G, h1, h2, e, hn⟩, ha =>
    ⟨cells, B, G, h1.frame (ha.sub (by subst e; intro b hb; simp [hb])), h2.imp fun v t H h hb => RepT.frame h (ha.sub (by subst e; intro b hx; simp [hb b hx])), e, hn⟩

theorem RepL.len {R : Value → T U.El → List Nat → Prop} : ∀ {vs : List Value} {ts : List (T U.El)} {F : List Nat}, RepL R vs ts F → vs.length = ts.length
  | [], [], _, _ => rfl
  | _ :: _, _ :: _, _, ⟨_, _, _, h, _⟩ => by simp [h.len]

theorem RepL.get {R : Value → T U.El → List Nat → Prop} : ∀ {vs : List Value} {ts : List (T U.El)} {F : List Nat} {j : Nat} {t : T U.El}, RepL R vs ts F → ts[j]? = some t → ∃ v G, vs[j]? = some v ∧ R v t G ∧ ∀ b ∈ G, b ∈ F
  | [], [], _, _, _, _, h => by simp at h
  | v :: vs, t' :: ts, F, 0, t, ⟨F1, F2, h1, h2, e⟩, h => ⟨v, F1, rfl, by simp at h; subst h; exact h1, by subst e; intro b hb; simp [hb]⟩
  | v :: vs, t' :: ts, F, j + 1, t, ⟨F1, F2, h1, h2, e⟩, h => by
    obtain ⟨v, G, a, b, c⟩ := h2.get (j := j) (t := t) (by simpa using h)
    exact ⟨v, G, by simpa using a, b, by subst e; intro x hx; simp [c x hx]⟩

theorem RepT.read : ∀ {d : Nat} {w : World} {v : Value} {t : T U.El} {F : List Nat}, RepT true d w v t F → ∃ F', RepT false d w v t F' ∧ ∀ b ∈ F', b ∈ F
  | 0, _, _, .lit _, _, h => ⟨_, h, fun _ h => h⟩
  | _ + 1, _, _, .lit _, _, h => ⟨_, h, fun _ h => h⟩
  | 0, _, _, .row _ _, _, h => h.elim
  | d + 1, w, v, .row k l, F, ⟨cells, B, G, h1, h2, e, hn⟩ => by
    obtain ⟨B', hB, hs⟩ := h1.read
    have : ∀ {vs : List Value} {ts : List (T U.El)} {G : List Nat}, RepL (RepT true d w) vs ts G → ∃ G', RepL (RepT false d w) vs ts G' ∧ ∀ b ∈ G', b ∈ G := by
      intro vs
      induction vs with
      | nil => intro ts G h; cases ts with
        | nil => exact ⟨_, h, fun _ h => h⟩
        | cons _ _ => exact h.elim
      | cons v vs ih => intro ts G h; cases ts with
        | nil => exact h.elim
        | cons t ts =>
          obtain ⟨F1, F2, a, b, rfl⟩ := h
          obtain ⟨F1', a', s1⟩ := RepT.read a
          obtain ⟨F2', b', s2⟩ := ih b
          exact ⟨F1' ++ F2', ⟨F1', F2', a', b', rfl⟩, fun x hx => by
            rcases List.mem_append.1 hx with h | h
            · simp [s1 x h]
            · simp [s2 x h]⟩
    obtain ⟨G', hG, hs'⟩ := this h2
    exact ⟨B' ++ G', ⟨cells, B', G', hB, hG, rfl, fun h => by simp at h⟩, fun b hb => by
      subst e
      rcases List.mem_append.1 hb with h | h
      · simp [hs b h]
      · simp [hs' b h]⟩

theorem RepT.readAny {own : Bool} {d : Nat} {w : World} {v : Value} {t : T U.El} {F : List Nat} (h : RepT own d w v t F) : ∃ F', RepT false d w v t F' ∧ ∀ b ∈ F', b ∈ F := by
  cases own with
  | true => exact h.read
  | false => exact ⟨F, h, fun _ h => h⟩

theorem RepT.lt {own : Bool} : ∀ {d : Nat} {w : World} {v : Value} {t : T U.El} {F : List Nat}, RepT own d w v t F → ∀ b ∈ F, b < w.heap.size
  | 0, _, _, .lit _, _, h => by rw [h.2]; simp
  | _ + 1, _, _, .lit _, _, h => by rw [h.2]; simp
  | 0, _, _, .row _ _, _, h => h.elim
  | d + 1, w, v, .row k l, F, ⟨cells, B, G, h1, h2, e, hn⟩ => by
    have : ∀ {vs : List Value} {ts : List (T U.El)} {G : List Nat}, RepL (RepT own d w) vs ts G → ∀ b ∈ G, b < w.heap.size := by
      intro vs
      induction vs with
      | nil => intro ts G h; cases ts with
        | nil => rw [show G = [] from h]; simp
        | cons _ _ => exact h.elim
      | cons v vs ih => intro ts G h; cases ts with
        | nil => exact h.elim
        | cons t ts =>
          obtain ⟨F1, F2, a, b, rfl⟩ := h
          intro x hx
          rcases List.mem_append.1 hx with h | h
          · exact RepT.lt a x h
          · exact ih b x h
    subst e
    intro x hx
    rcases List.mem_append.1 hx with h | h
    · exact h1.lt x h
    · exact this h2 x h

/-- What is said of the kinds. -/
structure UniOk (U : Uni) : Prop where
  len : ∀ k x, (U.enc k x).length = U.sz k
  dec : ∀ k cs x, U.dec k cs = some x → U.enc k x = cs
  one : ∀ k x v, T.lit v ∈ U.enc k x → v.oneCell' = true
  flat : ∀ k x, U.nest k = false → ∀ t ∈ U.enc k x, ∃ v, t = .lit v
  byt : ∀ k, U.byt k = true → ∀ x, ∃ n, U.enc k x = [.lit (.int .u8 n)]
  byd : ∀ k, U.byt k = true → ∀ n, ∃ x, U.dec k [.lit (.int .u8 n)] = some x

theorem flat_get {k : Nat} (h : UniOk U) : ∀ (l : List (U.El k)) (i c : Nat) (x : U.El k), l[i]? = some x → c < U.sz k → (l.flatMap (U.enc k))[i * U.sz k + c]? = (U.enc k x)[c]?
  | [], _, _, _, hi, _ => by simp at hi
  | y :: l, 0, c, x, hi, hc => by
    simp at hi; subst hi
    simp only [List.flatMap_cons, Nat.zero_mul, Nat.zero_add]
    rw [List.getElem?_append_left (by rw [h.len]; exact hc)]
  | y :: l, i + 1, c, x, hi, hc => by
    simp only [List.flatMap_cons]
    rw [List.getElem?_append_right (by rw [h.len, Nat.add_mul]; omega), h.len]
    rw [show (i + 1) * U.sz k + c - U.sz k = i * U.sz k + c by rw [Nat.add_mul]; omega]
    exact flat_get h l i c x (by simpa using hi) hc

theorem flat_len {k : Nat} (h : UniOk U) (l : List (U.El k)) : (l.flatMap (U.enc k)).length = l.length * U.sz k := by
  induction l with
  | nil => simp
  | cons x l ih => simp only [List.flatMap_cons, List.length_append, ih, h.len, List.length_cons, Nat.add_mul]; omega

theorem rd_get (r : Row U) (i : Int) (hi : i.toNat < r.2.length) : r.2[i.toNat]? = some (rd r i) := by
  simp [rd, hi]

/-- The way to a row within a row. -/
def Fol (w : World) : Value → Row U → List (Int × Nat) → Value → Prop
  | v, r, [], v1 => v1 = v
  | v, r, (i, c) :: p, v1 => ∃ a n cap v2 k l, v = .slice (some a) n cap ∧ 0 ≤ i ∧ i.toNat < r.2.length ∧ w.cell? (a.add (i.toNat * U.sz r.1 + c)) = some v2 ∧
      (U.enc r.1 (rd r i))[c]? = some (.row k l) ∧ Fol w v2 ⟨k, l⟩ p v1

/-- A cell of a row that lies in the world. -/
theorem RepT.cellAt (hu : UniOk U) {own : Bool} {d : Nat} {w : World} {v : Value} {r : Row U} {F : List Nat} (h : RepT own (d + 1) w v (.row r.1 r.2) F) {i : Int} {c : Nat} {t : T U.El}
    (hi : i.toNat < r.2.length) (hc : (U.enc r.1 (rd r i))[c]? = some t) :
    ∃ a cap u G, v = .slice (some a) r.2.length cap ∧ a.block ∈ F ∧ w.cell? (a.add (i.toNat * U.sz r.1 + c)) = some u ∧ RepT own d w u t G ∧ (∀ b ∈ G, b ∈ F) ∧ (own = true → w.frozen? (a.add (i.toNat * U.sz r.1 + c)) = false ∧ a.off = 0 ∧ a.spot = none) := by
  obtain ⟨cells, B, G, h1, h2, e, hn⟩ := h
  have hcl : c < U.sz r.1 := by
    rw [← hu.len r.1 (rd r i)]
    rcases Nat.lt_or_ge c (U.enc r.1 (rd r i)).length with h | h
    · exact h
    · simp [List.getElem?_eq_none h] at hc
  have hf := flat_get hu r.2 i.toNat c _ (rd_get r i hi) hcl
  rw [hc] at hf
  obtain ⟨u, G', hu1, hu2, hu3⟩ := h2.get hf
  obtain ⟨a, cap, e1, e2, e3, e4⟩ := h1.cell hu1
  exact ⟨a, cap, u, G', e1, by subst e; simp [e2], e3, hu2, fun b hb => by subst e; simp [hu3 b hb], e4⟩

theorem Fol.rep (hu : UniOk U) {own : Bool} : ∀ {p : List (Int × Nat)} {d : Nat} {w : World} {v v1 : Value} {r : Row U} {F : List Nat}, RepT own d w v (.row r.1 r.2) F → Fol w v r p v1 →
    ∃ r1 d' F1, followR r p = some r1 ∧ RepT own d' w v1 (.row r1.1 r1.2) F1 ∧ ∀ b ∈ F1, b ∈ F
  | [], d, w, v, v1, r, F, h, hf => by rw [show v1 = v from hf]; exact ⟨r, d, F, rfl, h, fun _ h => h⟩
  | (i, c) :: p, 0, w, v, v1, r, F, h, hf => h.elim
  | (i, c) :: p, d + 1, w, v, v1, r, F, h, ⟨a, n, cap, v2, k, l, e1, h0, hi, hc, he, hf⟩ => by
    obtain ⟨a', cap', u, G, e1', _, hc', hR, hs, _⟩ := h.cellAt hu hi he
    rw [e1] at e1'; injection e1' with e1' _ _; injection e1' with e1'; subst e1'
    rw [hc] at hc'; injection hc' with hc'; subst hc'
    obtain ⟨r1, d', F1, f1, f2, f3⟩ := Fol.rep hu (r := ⟨k, l⟩) hR hf
    refine ⟨r1, d', F1, ?_, f2, fun b hb => hs b (f3 b hb)⟩
    simp only [followR, he]; exact f1

theorem Fol.frame (hu : UniOk U) {own : Bool} : ∀ {p : List (Int × Nat)} {d : Nat} {w w' : World} {v v1 : Value} {r : Row U} {F : List Nat}, RepT own d w v (.row r.1 r.2) F → agree w w' F → Fol w v r p v1 → Fol w' v r p v1
  | [], _, _, _, _, _, _, _, _, _, h => h
  | (i, c) :: p, 0, w, w', v, v1, r, F, h, _, hf => h.elim
  | (i, c) :: p, d + 1, w, w', v, v1, r, F, h, ha, ⟨a, n, cap, v2, k, l, e1, h0, hi, hc, he, hf⟩ => by
    obtain ⟨a', cap', u, G, e1', hb, hc', hR, hs, _⟩ := h.cellAt hu hi he
    have e2 := e1
    rw [e1] at e1'; injection e1' with e1' _ _; injection e1' with e1'; subst e1'
    rw [hc] at hc'; injection hc' with hc'; subst hc'
    refine ⟨a, n, cap, v2, k, l, e1, h0, hi, ?_, he, Fol.frame hu (r := ⟨k, l⟩) hR (ha.sub hs) hf⟩
    rw [ha.cell (by rw [add_block]; exact hb)]; exact hc

theorem RepL.split {R : Value → T U.El → List Nat → Prop} : ∀ {vs : List Value} {t1 t2 : List (T U.El)} {F : List Nat}, RepL R vs (t1 ++ t2) F → ∃ F1 F2, RepL R (vs.take t1.length) t1 F1 ∧ RepL R (vs.drop t1.length) t2 F2 ∧ F = F1 ++ F2
  | vs, [], t2, F, h => ⟨[], F, by simp [RepL], by simpa using h, rfl⟩
  | [], t :: t1, t2, F, h => h.elim
  | v :: vs, t :: t1, t2, F, ⟨G1, G2, h1, h2, e⟩ => by
    obtain ⟨F1, F2, a, b, c⟩ := h2.split
    exact ⟨G1 ++ F1, F2, by simp only [List.length_cons, List.take_succ_cons]; exact ⟨G1, F1, h1, a, rfl⟩, by simpa using b, by rw [e, c, List.append_assoc]⟩

theorem RepL.join {R : Value → T U.El → List Nat → Prop} : ∀ {v1 v2 : List Value} {t1 t2 : List (T U.El)} {F1 F2 : List Nat}, RepL R v1 t1 F1 → RepL R v2 t2 F2 → RepL R (v1 ++ v2) (t1 ++ t2) (F1 ++ F2)
  | [], v2, [], t2, F1, F2, h, h' => by rw [show F1 = [] from h]; simpa using h'
  | [], _, _ :: _, _, _, _, h, _ => h.elim
  | _ :: _, _, [], _, _, _, h, _ => h.elim
  | v :: v1, v2, t :: t1, t2, F1, F2, ⟨G1, G2, a, b, e⟩, h' => ⟨G1, G2 ++ F2, a, b.join h', by rw [e, List.append_assoc]⟩

theorem flat_split {k : Nat} (l : List (U.El k)) (i : Nat) (x : U.El k) (h : l[i]? = some x) : l.flatMap (U.enc k) = (l.take i).flatMap (U.enc k) ++ (U.enc k x ++ (l.drop (i + 1)).flatMap (U.enc k)) := by
  have hi : i < l.length := by
    rcases Nat.lt_or_ge i l.length with h' | h'
    · exact h'
    · simp [List.getElem?_eq_none h'] at h
  have e : l = l.take i ++ x :: l.drop (i + 1) := by
    rw [List.getElem?_eq_getElem hi] at h
    injection h with h
    rw [← h, List.getElem_cons_drop, List.take_append_drop]
  conv => lhs; rw [e]
  simp

/-- An element's cells. -/
theorem RepT.elemAt (hu : UniOk U) {own : Bool} {d : Nat} {w : World} {v : Value} {r : Row U} {F : List Nat} (h : RepT own (d + 1) w v (.row r.1 r.2) F) {i : Int} (hi : i.toNat < r.2.length) {a : Addr} {n cap : Nat} (hv : v = .slice (some a) n cap) :
    ∃ us G, us.length = U.sz r.1 ∧ (∀ j u, us[j]? = some u → w.cell? (a.add (i.toNat * U.sz r.1 + j)) = some u ∧ (own = true → w.frozen? (a.add (i.toNat * U.sz r.1 + j)) = false ∧ a.off = 0 ∧ a.spot = none)) ∧ RepL (RepT own d w) us (U.enc r.1 (rd r i)) G ∧ ∀ b ∈ G, b ∈ F := by
  obtain ⟨cells, B, G, h1, h2, e, hn⟩ := h
  rw [flat_split r.2 i.toNat _ (rd_get r i hi)] at h2
  obtain ⟨F1, F2, s1, s2, e1⟩ := h2.split
  obtain ⟨F3, F4, s3, s4, e2⟩ := s2.split
  have hl : ((r.2.take i.toNat).flatMap (U.enc r.1)).length = i.toNat * U.sz r.1 := by rw [flat_len hu, List.length_take]; congr 1; omega
  rw [hl] at s3
  refine ⟨_, F3, by rw [s3.len, hu.len], fun j u hj => ?_, s3, fun b hb => by subst e; rw [e1, e2]; simp [hb]⟩
  have hj' : cells[i.toNat * U.sz r.1 + j]? = some u := by
    rw [List.getElem?_take] at hj
    split at hj
    · rw [List.getElem?_drop] at hj; exact hj
    · simp at hj
  obtain ⟨a', cap', e3, _, e4, e5⟩ := h1.cell hj'
  rw [hv] at e3; injection e3 with e3 _ _; injection e3 with e3; subst e3
  exact ⟨e4, e5⟩

theorem Fol.snoc {w : World} : ∀ {p : List (Int × Nat)} {v v1 v2 : Value} {r r1 : Row U} {i : Int} {c : Nat} {a : Addr} {n cap : Nat} {k : Nat} {l : List (U.El k)}, Fol w v r p v1 → followR r p = some r1 → v1 = .slice (some a) n cap → 0 ≤ i → i.toNat < r1.2.length → w.cell? (a.add (i.toNat * U.sz r1.1 + c)) = some v2 → (U.enc r1.1 (rd r1 i))[c]? = some (.row k l) →
    Fol w v r (p ++ [(i, c)]) v2
  | [], v, v1, v2, r, r1, i, c, a, n, cap, k, l, h, hr, hv, h0, hi, hc, he => by
    simp [followR] at hr; subst hr
    rw [show v1 = v from h] at hv
    exact ⟨a, n, cap, v2, k, l, hv, h0, hi, hc, he, rfl⟩
  | (i', c') :: p, v, v1, v2, r, r1, i, c, a, n, cap, k, l, ⟨a', n', cap', v2', k', l', e1, e2, e3, e4, e5, h⟩, hr, hv, h0, hi, hc, he => by
    simp only [followR, e5] at hr
    exact ⟨a', n', cap', v2', k', l', e1, e2, e3, e4, e5, h.snoc hr hv h0 hi hc he⟩

theorem RepT.mono {own : Bool} : ∀ {d d' : Nat} {w : World} {v : Value} {t : T U.El} {F : List Nat}, RepT own d w v t F → d ≤ d' → RepT own d' w v t F
  | 0, 0, _, _, .lit _, _, h, _ => h
  | 0, _ + 1, _, _, .lit _, _, h, _ => h
  | _ + 1, 0, _, _, _, _, _, hd => by omega
  | _ + 1, _ + 1, _, _, .lit _, _, h, _ => h
  | 0, _, _, _, .row _ _, _, h, _ => h.elim
  | d + 1, d' + 1, w, v, .row k l, F, ⟨cells, B, G, h1, h2, e, hn⟩, hd => ⟨cells, B, G, h1, h2.imp fun v t H h _ => RepT.mono h (by omega), e, hn⟩

theorem RepT.nodup : ∀ {d : Nat} {w : World} {v : Value} {t : T U.El} {F : List Nat}, RepT true d w v t F → F.Nodup
  | 0, _, _, .lit _, _, h => by rw [h.2]; exact List.nodup_nil
  | _ + 1, _, _, .lit _, _, h => by rw [h.2]; exact List.nodup_nil
  | 0, _, _, .row _ _, _, h => h.elim
  | d + 1, w, v, .row k l, F, ⟨cells, B, G, h1, h2, e, hn⟩ => hn rfl

end
end Go.Proofs.YtchohkelpjfpcaaDoor.AX

/- When a state of the small machine tells how the frame and the world stand. No conditions. -/
namespace Go.Proofs.YtchohkelpjfpcaaDoor.AX
open Go Go.RowKit

section
variable {U : Uni}

theorem beq_ne {a b : Nat} (h : a ≠ b) : Nat.beq a b = false := by
  cases e : Nat.beq a b with
  | false => rfl
  | true => exact absurd (Nat.eq_of_beq_eq_true e) h

def isSlice (v : Value) : Prop := ∃ A n c, v = .slice A n c

def MatS (w : World) (c : Chunk U) (loc : Value) (ver : Nat) (path : List (Int × Nat)) (v : Value) : Prop :=
  isSlice v ∧ match c with
  | .fresh => False
  | .row _ cv k l => (path = [] → v = loc) ∧ (path ≠ [] → ver ≤ cv) ∧ (ver = cv → Fol w loc (⟨k, l⟩ : Row U) path v)
  | .holed cv k l _ _ => (path = [] → v = loc) ∧ (path ≠ [] → ver ≤ cv)
  | _ => True

/-- Where the row at a path lies. -/
def Spot (w : World) (r : Row U) (loc : Value) (path : List (Int × Nat)) (r1 : Row U) (v1 : Value) : Prop := Fol w loc r path v1 ∧ followR r path = some r1

def MatP (w : World) (c : Chunk U) (loc : Value) (ver : Nat) (path : List (Int × Nat)) (i : Int) (cc : Nat) (v : Value) : Prop :=
  ∃ A, v = .pointer (some A) ∧ match c with
  | .fresh => False
  | .row _ cv k l => (path ≠ [] → ver ≤ cv) ∧ ((path = [] ∨ ver = cv) → ∃ r1 v1 a n cap, Spot w (⟨k, l⟩ : Row U) loc path r1 v1 ∧ v1 = .slice (some a) n cap ∧ 0 ≤ i ∧ i.toNat < r1.2.length ∧ A = a.add (i.toNat * U.sz r1.1 + cc))
  | .holed cv k l _ _ => (path ≠ [] → ver ≤ cv) ∧ (path = [] → ∃ a n cap, loc = .slice (some a) n cap ∧ 0 ≤ i ∧ i.toNat < l.length ∧ A = a.add (i.toNat * U.sz k + cc))
  | .box _ _ => ∃ b, loc = .pointer (some ⟨b, 0, none⟩) ∧ A = (⟨b, 0, none⟩ : Addr).add cc
  | _ => True

def MatW (w : World) (c : Chunk U) (loc : Value) (ver : Nat) (path : List (Int × Nat)) (off len : Int) (v : Value) : Prop :=
  isSlice v ∧ match c with
  | .fresh => False
  | .row _ cv k l => (path ≠ [] → ver ≤ cv) ∧ ((path = [] ∨ ver = cv) → ∃ r1 v1 A cap, Spot w (⟨k, l⟩ : Row U) loc path r1 v1 ∧ v1 = .slice A r1.2.length cap ∧ 0 ≤ off ∧ 0 ≤ len ∧ off + len ≤ r1.2.length ∧
      ∃ A', v = .slice A' len.toNat (cap - off.toNat) ∧ (off.toNat < cap → A' = A.map (·.add (off.toNat * U.sz r1.1))))
  | .holed cv k l _ _ => (path ≠ [] → ver ≤ cv) ∧ (path = [] → ∃ A cap, loc = .slice A l.length cap ∧ 0 ≤ off ∧ 0 ≤ len ∧ off + len ≤ l.length ∧
      ∃ A', v = .slice A' len.toNat (cap - off.toNat) ∧ (off.toNat < cap → A' = A.map (·.add (off.toNat * U.sz k))))
  | _ => True

def MatM (c : Chunk U) (loc : Value) (v : Value) : Prop :=
  match c with
  | .fresh => False
  | .mp _ _ => v = loc
  | _ => True

mutual
def Mat (w : World) (ρ : Nat → Value) (ch : Nat → Chunk U) : SV → Value → Prop
  | .lit x, v => v = x
  | .slc id ver p, v => MatS w (ch id) (ρ id) ver p v
  | .win id ver p off len, v => MatW w (ch id) (ρ id) ver p off len v
  | .ptr id ver p i c, v => MatP w (ch id) (ρ id) ver p i c v
  | .agg cs, v => ∃ vs : List Value, v = .agg vs.toArray ∧ MatL w ρ ch cs vs
  | .tup cs, v => ∃ vs : List Value, v = .tuple vs.toArray ∧ MatL w ρ ch cs vs
  | .fn f caps, v => ∃ vs : List Value, v = .func (.func f) #[] vs.toArray ∧ MatL w ρ ch caps vs
  | .mref id, v => MatM (ch id) (ρ id) v
  | .when _ g x, v => (g = true → Mat w ρ ch x v) ∧ (g = false → v = undef)
  | .dead, _ => True
def MatL (w : World) (ρ : Nat → Value) (ch : Nat → Chunk U) : List SV → List Value → Prop
  | [], vs => vs = []
  | s :: ss, vs => ∃ v r, vs = v :: r ∧ Mat w ρ ch s v ∧ MatL w ρ ch ss r
end

def RepLH (R : Value → T U.El → List Nat → Prop) : Nat → List Value → List (T U.El) → List Nat → Prop
  | 0, _ :: vs, _ :: ts, F => RepL R vs ts F
  | j + 1, v :: vs, t :: ts, F => ∃ F1 F2, R v t F1 ∧ RepLH R j vs ts F2 ∧ F = F1 ++ F2
  | _, _, _, _ => False

theorem RepLH.imp {R R' : Value → T U.El → List Nat → Prop} : ∀ {j : Nat} {vs : List Value} {ts : List (T U.El)} {F : List Nat}, RepLH R j vs ts F → (∀ v t G, R v t G → (∀ b ∈ G, b ∈ F) → R' v t G) → RepLH R' j vs ts F
  | 0, _ :: _, _ :: _, F, h, hi => RepL.imp h hi
  | j + 1, v :: vs, t :: ts, F, ⟨F1, F2, h1, h2, e⟩, hi => ⟨F1, F2, hi _ _ _ h1 (by subst e; intro b hb; simp [hb]), h2.imp fun v t G h hb => hi v t G h (by subst e; intro b hx; simp [hb b hx]), e⟩
  | 0, [], _, _, h, _ => h.elim
  | 0, _ :: _, [], _, h, _ => h.elim
  | _ + 1, [], _, _, h, _ => h.elim
  | _ + 1, _ :: _, [], _, h, _ => h.elim

/-- A row of which one cell's row has been taken out. -/
def Hole (d : Nat) (w : World) (v : Value) (k : Nat) (l : List (U.El k)) (j : Nat) (F : List Nat) : Prop :=
  ∃ cells B G, RowAt true w (U.ty k) (U.sz k) v l.length cells B ∧ RepLH (RepT true d w) j cells (l.flatMap (U.enc k)) G ∧ F = B ++ G ∧ F.Nodup

/-- A value of cells: parts, or the one cell. -/
def mkV (g : Bool) (cs : List Value) (v : Value) : Prop :=
  match g with
  | true => v = .agg cs.toArray
  | false => cs = [v]

/-- A map's entry is told. -/
def MEnt (U : Uni) (k : Nat) (e : MapEntry) (x : U.El k) : Prop :=
  ∃ cks ka va ks vs, U.mp k = some (cks, ka, va) ∧ U.enc k x = (ks ++ vs).map T.lit ∧ KOk cks ks ∧ mkV ka ks e.key ∧ mkV va vs e.val

def MEnts (U : Uni) (k : Nat) : List MapEntry → List (U.El k) → Prop
  | [], [] => True
  | e :: es, x :: xs => MEnt U k e x ∧ MEnts U k es xs
  | _, _ => False

def RepC (w : World) (loc : Value) : Chunk U → List Nat → Prop
  | .fresh, F => F = []
  | .gone, F => F = []
  | .row own _ k l, F => ∃ d, RepT own d w loc (.row k l) F
  | .holed _ k l i c, F => 0 ≤ i ∧ i.toNat < l.length ∧ c < U.sz k ∧ (∃ k' l', (U.enc k (rd (⟨k, l⟩ : Row U) i))[c]? = some (.row k' l')) ∧ ∃ d, Hole d w loc k l (i.toNat * U.sz k + c) F
  | .box ty _, F => ∃ b cur, loc = .pointer (some ⟨b, 0, none⟩) ∧ w.heap[b]? = some (.cells cur ty (0, 0)) ∧ F = [b]
  | .mp k l, F => ∃ b es clock, loc = .map (some b) ∧ w.heap[b]? = some (.map es clock) ∧ MEnts U k es.toList l ∧ F = [b]

def Chunk.own : Chunk U → Bool
  | .row own _ _ _ => own
  | .holed _ _ _ _ _ => true
  | .box _ _ => true
  | .mp _ _ => true
  | _ => false

theorem Hole.frame {d : Nat} {w w' : World} {v : Value} {k : Nat} {l : List (U.El k)} {j : Nat} {F : List Nat} (h : Hole d w v k l j F) (ha : agree w w' F) : Hole d w' v k l j F := by
  obtain ⟨cells, B, G, h1, h2, e, hn⟩ := h
  exact ⟨cells, B, G, h1.frame (ha.sub (by subst e; intro b hb; simp [hb])), h2.imp fun v t H h hb => RepT.frame h (ha.sub (by subst e; intro b hx; simp [hb b hx])), e, hn⟩

theorem RepC.frame {w w' : World} {loc : Value} {c : Chunk U} {F : List Nat} (h : RepC w loc c F) (ha : agree w w' F) : RepC w' loc c F := by
  cases c with
  | fresh => exact h
  | gone => exact h
  | row own _ k l => obtain ⟨d, h⟩ := h; exact ⟨d, h.frame ha⟩
  | holed _ k l i c => obtain ⟨h0, h1, h2, h3, d, h⟩ := h; exact ⟨h0, h1, h2, h3, d, h.frame ha⟩
  | box ty cs => obtain ⟨b, cur, h1, h2, rfl⟩ := h; exact ⟨b, cur, h1, (ha b (by simp)).trans h2, rfl⟩
  | mp k l => obtain ⟨b, es, clock, h1, h2, h3, rfl⟩ := h; exact ⟨b, es, clock, h1, (ha b (by simp)).trans h2, h3, rfl⟩

/-- How a chunk may turn, so that what refers to it stays right. -/
inductive Keep (w w' : World) (F : List Nat) : Chunk U → Value → Chunk U → Value → Prop where
  | same (c loc) (h : agree w w' F) : Keep w w' F c loc c loc
  | born (loc c' loc') : Keep w w' F .fresh loc c' loc'
  | dies (c loc) : Keep w w' F c loc .gone loc
  | box (ty cs cs' loc) : Keep w w' F (.box ty cs) loc (.box ty cs') loc
  | mp (k l l' loc) : Keep w w' F (.mp k l) loc (.mp k l') loc
  | set (o v k l v' l' loc) (hv : v < v') (hl : l'.length = l.length) : Keep w w' F (.row o v k l) loc (.row o v' k l') loc
  | hole (o v k l i c loc) : Keep w w' F (.row o v k l) loc (.holed v k l i c) loc
  | fill (v k l i c v' l' loc) (hv : v < v') (hl : l'.length = l.length) : Keep w w' F (.holed v k l i c) loc (.row true v' k l') loc

theorem fol_nil {w : World} {v v1 : Value} {r : Row U} : Fol w v r [] v1 ↔ v1 = v := Iff.rfl

theorem Spot.nil {w : World} {r r1 : Row U} {loc v1 : Value} (h : Spot w r loc [] r1 v1) : r1 = r ∧ v1 = loc := by
  obtain ⟨h1, h2⟩ := h
  exact ⟨by simp [followR] at h2; exact h2.symm, h1⟩

theorem Spot.frame (hu : UniOk U) {own : Bool} {d : Nat} {w w' : World} {r r1 : Row U} {loc v1 : Value} {p : List (Int × Nat)} {F : List Nat} (hr : RepT own d w loc (.row r.1 r.2) F) (ha : agree w w' F) (h : Spot w r loc p r1 v1) : Spot w' r loc p r1 v1 :=
  ⟨h.1.frame hu hr ha, h.2⟩

theorem MatS.step (hu : UniOk U) {w w' : World} {c c' : Chunk U} {loc loc' : Value} {F : List Nat} (hk : Keep w w' F c loc c' loc') (hr : RepC w loc c F) {ver : Nat} {p : List (Int × Nat)} {v : Value} (h : MatS w c loc ver p v) : MatS w' c' loc' ver p v := by
  obtain ⟨hsl, h⟩ := h
  refine ⟨hsl, ?_⟩
  cases hk with
  | same _ _ ha =>
    cases c with
    | row own cv k l =>
      obtain ⟨d, hr⟩ := hr
      obtain ⟨h1, h2, h3⟩ := h
      exact ⟨h1, h2, fun e => (h3 e).frame hu (r := ⟨k, l⟩) hr ha⟩
    | _ => exact h
  | born => exact h.elim
  | dies => exact trivial
  | box => exact trivial
  | mp => exact trivial
  | set o x k l x' l' _ hv hl =>
    obtain ⟨h1, h2, h3⟩ := h
    refine ⟨h1, fun hp => by have := h2 hp; omega, fun e => ?_⟩
    cases p with
    | nil => exact h1 rfl
    | cons y p => have := h2 (by simp); omega
  | hole => exact ⟨h.1, h.2.1⟩
  | fill x k l i c x' l' _ hv hl =>
    obtain ⟨h1, h2⟩ := h
    refine ⟨h1, fun hp => by have := h2 hp; omega, fun e => ?_⟩
    cases p with
    | nil => exact h1 rfl
    | cons y p => have := h2 (by simp); omega

theorem MatP.step (hu : UniOk U) {w w' : World} {c c' : Chunk U} {loc loc' : Value} {F : List Nat} (hk : Keep w w' F c loc c' loc') (hr : RepC w loc c F) {ver : Nat} {p : List (Int × Nat)} {i : Int} {cc : Nat} {v : Value} (h : MatP w c loc ver p i cc v) : MatP w' c' loc' ver p i cc v := by
  obtain ⟨A, hA, h⟩ := h
  refine ⟨A, hA, ?_⟩
  cases hk with
  | same _ _ ha =>
    cases c with
    | row own cv k l =>
      obtain ⟨d, hr⟩ := hr
      obtain ⟨h2, h3⟩ := h
      refine ⟨h2, fun e => ?_⟩
      obtain ⟨r1, v1, a, n, cap, hs, r⟩ := h3 e
      exact ⟨r1, v1, a, n, cap, hs.frame hu (r := ⟨k, l⟩) hr ha, r⟩
    | _ => exact h
  | born => exact h.elim
  | dies => exact trivial
  | box => exact h
  | mp => exact trivial
  | set o x k l x' l' _ hv hl =>
    obtain ⟨h2, h3⟩ := h
    refine ⟨fun hp => by have := h2 hp; omega, fun e => ?_⟩
    cases p with
    | nil =>
      obtain ⟨r1, v1, a, n, cap, hs, e1, e2, e3, e4⟩ := h3 (.inl rfl)
      obtain ⟨rfl, rfl⟩ := hs.nil
      exact ⟨⟨k, l'⟩, v1, a, n, cap, ⟨rfl, rfl⟩, e1, e2, by rw [hl]; exact e3, e4⟩
    | cons y p =>
      have := h2 (by simp)
      rcases e with e | e
      · simp at e
      · omega
  | hole o x k l i' c' _ =>
    obtain ⟨h2, h3⟩ := h
    refine ⟨h2, fun e => ?_⟩
    subst e
    obtain ⟨r1, v1, a, n, cap, hs, e1, e2, e3, e4⟩ := h3 (.inl rfl)
    obtain ⟨rfl, rfl⟩ := hs.nil
    exact ⟨a, n, cap, e1, e2, e3, e4⟩
  | fill x k l i' c' x' l' _ hv hl =>
    obtain ⟨h2, h3⟩ := h
    refine ⟨fun hp => by have := h2 hp; omega, fun e => ?_⟩
    cases p with
    | nil =>
      obtain ⟨a, n, cap, e1, e2, e3, e4⟩ := h3 rfl
      exact ⟨⟨k, l'⟩, _, a, n, cap, ⟨rfl, rfl⟩, e1, e2, by rw [hl]; exact e3, e4⟩
    | cons y p =>
      have := h2 (by simp)
      rcases e with e | e
      · simp at e
      · omega

theorem MatW.step (hu : UniOk U) {w w' : World} {c c' : Chunk U} {loc loc' : Value} {F : List Nat} (hk : Keep w w' F c loc c' loc') (hr : RepC w loc c F) {ver : Nat} {p : List (Int × Nat)} {off len : Int} {v : Value} (h : MatW w c loc ver p off len v) : MatW w' c' loc' ver p off len v := by
  obtain ⟨hsl, h⟩ := h
  refine ⟨hsl, ?_⟩
  cases hk with
  | same _ _ ha =>
    cases c with
    | row own cv k l =>
      obtain ⟨d, hr⟩ := hr
      obtain ⟨h2, h3⟩ := h
      refine ⟨h2, fun e => ?_⟩
      obtain ⟨r1, v1, A, cap, hs, r⟩ := h3 e
      exact ⟨r1, v1, A, cap, hs.frame hu (r := ⟨k, l⟩) hr ha, r⟩
    | _ => exact h
  | born => exact h.elim
  | dies => exact trivial
  | box => exact trivial
  | mp => exact trivial
  | set o x k l x' l' _ hv hl =>
    obtain ⟨h2, h3⟩ := h
    refine ⟨fun hp => by have := h2 hp; omega, fun e => ?_⟩
    cases p with
    | nil =>
      obtain ⟨r1, v1, A, cap, hs, e1, r⟩ := h3 (.inl rfl)
      obtain ⟨rfl, rfl⟩ := hs.nil
      exact ⟨⟨k, l'⟩, v1, A, cap, ⟨rfl, rfl⟩, by rw [hl]; exact e1, by rw [hl]; exact r⟩
    | cons y p =>
      have := h2 (by simp)
      rcases e with e | e
      · simp at e
      · omega
  | hole o x k l i' c' _ =>
    obtain ⟨h2, h3⟩ := h
    refine ⟨h2, fun e => ?_⟩
    subst e
    obtain ⟨r1, v1, A, cap, hs, e1, r⟩ := h3 (.inl rfl)
    obtain ⟨rfl, rfl⟩ := hs.nil
    exact ⟨A, cap, e1, r⟩
  | fill x k l i' c' x' l' _ hv hl =>
    obtain ⟨h2, h3⟩ := h
    refine ⟨fun hp => by have := h2 hp; omega, fun e => ?_⟩
    cases p with
    | nil =>
      obtain ⟨A, cap, e1, r⟩ := h3 rfl
      exact ⟨⟨k, l'⟩, _, A, cap, ⟨rfl, rfl⟩, by rw [hl]; exact e1, by rw [hl]; exact r⟩
    | cons y p =>
      have := h2 (by simp)
      rcases e with e | e
      · simp at e
      · omega

theorem MatM.step {w w' : World} {c c' : Chunk U} {loc loc' : Value} {F : List Nat} (hk : Keep w w' F c loc c' loc') {v : Value} (h : MatM c loc v) : MatM c' loc' v := by
  cases hk with
  | same => exact h
  | born => exact h.elim
  | mp => exact h
  | _ => exact trivial

mutual
theorem Mat.step (hu : UniOk U) {w w' : World} {ρ ρ' : Nat → Value} {ch ch' : Nat → Chunk U} {F : Nat → List Nat} (hk : ∀ i, Keep w w' (F i) (ch i) (ρ i) (ch' i) (ρ' i)) (hr : ∀ i, RepC w (ρ i) (ch i) (F i)) :
    ∀ (s : SV) {v : Value}, Mat w ρ ch s v → Mat w' ρ' ch' s v
  | .lit x, v, h => by simp only [Mat] at h ⊢; exact h
  | .slc id ver p, v, h => by simp only [Mat] at h ⊢; exact MatS.step hu (hk id) (hr id) h
  | .win id ver p off len, v, h => by simp only [Mat] at h ⊢; exact MatW.step hu (hk id) (hr id) h
  | .ptr id ver p i c, v, h => by simp only [Mat] at h ⊢; exact MatP.step hu (hk id) (hr id) h
  | .agg cs, v, h => by simp only [Mat] at h ⊢; obtain ⟨vs, e, h⟩ := h; exact ⟨vs, e, MatL.step hu hk hr cs h⟩
  | .tup cs, v, h => by simp only [Mat] at h ⊢; obtain ⟨vs, e, h⟩ := h; exact ⟨vs, e, MatL.step hu hk hr cs h⟩
  | .fn f caps, v, h => by simp only [Mat] at h ⊢; obtain ⟨vs, e, h⟩ := h; exact ⟨vs, e, MatL.step hu hk hr caps h⟩
  | .mref id, v, h => by simp only [Mat] at h ⊢; exact MatM.step (hk id) h
  | .when t g x, v, h => by simp only [Mat] at h ⊢; exact ⟨fun e => Mat.step hu hk hr x (h.1 e), h.2⟩
  | .dead, v, h => by simp only [Mat]
theorem MatL.step (hu : UniOk U) {w w' : World} {ρ ρ' : Nat → Value} {ch ch' : Nat → Chunk U} {F : Nat → List Nat} (hk : ∀ i, Keep w w' (F i) (ch i) (ρ i) (ch' i) (ρ' i)) (hr : ∀ i, RepC w (ρ i) (ch i) (F i)) :
    ∀ (ss : List SV) {vs : List Value}, MatL w ρ ch ss vs → MatL w' ρ' ch' ss vs
  | [], vs, h => by simp only [MatL] at h ⊢; exact h
  | s :: ss, vs, h => by simp only [MatL] at h ⊢; obtain ⟨v, r, e, h1, h2⟩ := h; exact ⟨v, r, e, Mat.step hu hk hr s h1, MatL.step hu hk hr ss h2⟩
end

/-- What may have turned since the call began: blocks of M, and new ones. -/
structure Fr (w0 : World) (M : List Nat) (w : World) : Prop where
  os : w.os = w0.os
  tape : w.tape = w0.tape
  output : w.output = w0.output
  size : w0.heap.size ≤ w.heap.size
  block : ∀ b, b < w0.heap.size → b ∉ M → w.heap[b]? = w0.heap[b]?

theorem DoorOk.to {w0 w : World} {M E : List Nat} (h : DoorOk w0 M) (fr : Fr w0 M w) (hE : ∀ b ∈ E, b ∈ M ∨ w0.heap.size ≤ b) : DoorOk w E :=
  ⟨Door.frame (fun b hb => fr.block b (Door.lt h.1 b hb) (fun hm => h.2 b hm hb)) h.1, fun b hb hd => (hE b hb).elim (fun hm => h.2 b hm hd) (fun hl => by have := Door.lt h.1 b hd; omega)⟩

/-- What a call was handed: blocks; where chunks stay. -/
structure Own where
  bs : List Nat
  pins : Nat → Option Value

structure Sat (w0 : World) (M : Own) (N : Nat) (sl : Nat → SV) (ch : Nat → Chunk U) (ρ : Nat → Value) (F : Nat → List Nat) (a : Act) (w : World) : Prop where
  tmps : a.tmps.size = N
  defers : a.defers = []
  slots : ∀ i, Mat w ρ ch (sl i) (a.tmps.getD i undef)
  rep : ∀ i, RepC w (ρ i) (ch i) (F i)
  box : ∀ i ty cs, ch i = .box ty cs → ∃ b cur, ρ i = .pointer (some ⟨b, 0, none⟩) ∧ w.heap[b]? = some (.cells cur ty (0, 0)) ∧ MatL w ρ ch cs cur.toList
  disj : ∀ i j, i ≠ j → (ch i).own = true → ∀ b ∈ F i, b ∉ F j
  mine : ∀ i, (ch i).own = true → ∀ b ∈ F i, b ∈ M.bs ∨ w0.heap.size ≤ b
  lt : ∀ i, ∀ b ∈ F i, b < w.heap.size
  fr : Fr w0 M.bs w
  door : DoorOk w0 M.bs
  pin : ∀ i v, M.pins i = some v → ρ i = v ∧ ch i ≠ .fresh

/-- A state that tells how things stand. -/
def SatE (w0 : World) (M : Own) (N : Nat) (s : St U) (a : Act) (w : World) : Prop := ∃ ρ F, Sat w0 M N s.slot s.chunk ρ F a w

/-- A change of chunks and world. -/
theorem Sat.change (hu : UniOk U) {w0 : World} {M : Own} {N : Nat} {sl : Nat → SV} {ch ch' : Nat → Chunk U} {ρ ρ' : Nat → Value} {F F' : Nat → List Nat} {a : Act} {w w' : World} (h : Sat w0 M N sl ch ρ F a w)
    (hk : ∀ i, Keep w w' (F i) (ch i) (ρ i) (ch' i) (ρ' i)) (hr : ∀ i, RepC w' (ρ' i) (ch' i) (F' i))
    (hb : ∀ i ty cs, ch' i = .box ty cs → ∃ b cur, ρ' i = .pointer (some ⟨b, 0, none⟩) ∧ w'.heap[b]? = some (.cells cur ty (0, 0)) ∧ MatL w' ρ' ch' cs cur.toList)
    (hd : ∀ i j, i ≠ j → (ch' i).own = true → ∀ b ∈ F' i, b ∉ F' j) (hm : ∀ i, (ch' i).own = true → ∀ b ∈ F' i, b ∈ M.bs ∨ w0.heap.size ≤ b) (hl : ∀ i, ∀ b ∈ F' i, b < w'.heap.size) (hf : Fr w0 M.bs w') : Sat w0 M N sl ch' ρ' F' a w' :=
  ⟨h.tmps, h.defers, fun i => (h.slots i).step hu hk h.rep, hr, hb, hd, hm, hl, hf, h.door, fun i v hp => by
    obtain ⟨h1, h2⟩ := h.pin i v hp
    have hki := hk i
    generalize ch i = c, ch' i = c', ρ i = l, ρ' i = l' at *
    cases hki with
    | born => exact absurd rfl h2
    | same _ _ => exact ⟨h1, h2⟩
    | _ => exact ⟨h1, by simp⟩⟩

def putSl (sl : Nat → SV) (dst : Option Nat) (s : SV) : Nat → SV := fun i => match dst with
  | some d => bif Nat.beq d i then s else sl i
  | none => sl i

/-- A slot takes a value. -/
theorem Sat.put {w0 : World} {M : Own} {N : Nat} {sl : Nat → SV} {ch : Nat → Chunk U} {ρ : Nat → Value} {F : Nat → List Nat} {a : Act} {w : World} (h : Sat w0 M N sl ch ρ F a w) {dst : Option Nat} {s : SV} {v : Value} (hd : inside N dst = true) (hv : ∀ d, dst = some d → Mat w ρ ch s v) :
    Sat w0 M N (putSl sl dst s) ch ρ F (a.put dst v) w := by
  cases dst with
  | none => exact h
  | some d =>
    have hd' : d < N := by simpa [inside] using hd
    refine ⟨by simp [Act.put, h.tmps], h.defers, fun i => ?_, h.rep, h.box, h.disj, h.mine, h.lt, h.fr, h.door, h.pin⟩
    simp only [Act.put, putSl]
    by_cases e : d = i
    · subst e
      simp only [Nat.beq_refl, cond_true]
      rw [Array.getD_eq_getD_getElem?, Array.getElem?_setIfInBounds_self_of_lt (by rw [h.tmps]; exact hd')]
      exact hv d rfl
    · have : Nat.beq d i = false := beq_ne e
      simp only [this, cond_false]
      rw [Array.getD_eq_getD_getElem?, Array.getElem?_setIfInBounds_ne e, ← Array.getD_eq_getD_getElem?]
      exact h.slots i

end
end Go.Proofs.YtchohkelpjfpcaaDoor.AX

/- The operations are what the small machine takes them for: those that turn no memory. No conditions. -/
namespace Go.Proofs.YtchohkelpjfpcaaDoor.AX
open Go Go.RowKit

section
variable {U : Uni}

theorem Rd.run_bind {α β : Type} {s : St U} {f : α → Rd U β} {b : β} : ∀ {x : Rd U α}, (x.bind f).run s = some b → ∃ a, x.run s = some a ∧ (f a).run s = some b
  | .ret a, h => ⟨a, rfl, h⟩
  | .slot i g, h => by simp only [Rd.bind, Rd.run] at h ⊢; exact Rd.run_bind h
  | .chunk i g, h => by simp only [Rd.bind, Rd.run] at h ⊢; exact Rd.run_bind h
  | .fail, h => by simp [Rd.bind, Rd.run] at h

theorem Rd.run_of {α : Type} {s : St U} {o : Option α} {a : α} (h : (Rd.of (U := U) o).run s = some a) : o = some a := by
  cases o with
  | none => simp [Rd.of, Rd.run] at h
  | some x => simpa [Rd.of, Rd.run] using h

inductive Resolves (CR : FuncId → List (DV U) → DV U → List (DV U) → Prop) : Out U → Eff U → Prop where
  | ret (e) : Resolves CR (.ret e) e
  | need (b o e) (hb : b = true) (h : Resolves CR o e) : Resolves CR (.need b o) e
  | iteT (b o1 o2 e) (hb : b = true) (h : Resolves CR o1 e) : Resolves CR (.ite b o1 o2) e
  | iteF (b o1 o2 e) (hb : b = false) (h : Resolves CR o2 e) : Resolves CR (.ite b o1 o2) e
  | call (f ds k r m e) (h : CR f ds r m) (hk : k r m = some e) : Resolves CR (.call f ds k) e

def ZeroL : List Value → List (T U.El) → Prop
  | [], [] => True
  | v :: vs, .lit x :: ts => v = x ∧ ZeroL vs ts
  | v :: vs, .row _ l :: ts => v = .slice none 0 0 ∧ l = [] ∧ ZeroL vs ts
  | _, _ => False

def descAgg : TypeDesc → Bool
  | .struct _ => true
  | .array _ _ => true
  | _ => false

def cmpFs (P : Program) (rec : TypeId → Option (List CK)) : List Field → Nat → Option (List CK)
  | [], _ => some []
  | f :: fs, off => cond (f.name != "_" && Nat.beq f.offset off) ((rec f.type).bind fun ks => cond (Nat.blt 0 ks.length && Nat.beq (P.cellsOf f.type) ks.length) ((cmpFs P rec fs (off + ks.length)).bind fun r => some (ks ++ r)) none) none

def cmpAt (P : Program) : Nat → TypeId → Option (List CK)
  | 0, _ => none
  | d + 1, t => match P.underlying t with
    | some (.int k) => some [.int k]
    | some .bool => some [.bool]
    | some .string => some [.str]
    | some (.struct fs) => cond (P.stoodInHeld t) none (cmpFs P (cmpAt P d) fs.toList 0)
    | some (.array n e) => cond (Nat.beq (P.cellsOf e) 1) ((cmpAt P d e).bind fun ks => match ks with
      | [c] => some (List.replicate n c)
      | _ => none) none
    | _ => none

/-- A map's type. -/
def MapTy (P : Program) (U : Uni) (t : TypeId) (k : Nat) : Prop :=
  ∃ (kt et : TypeId) (cks : List CK) (ka va : Bool) (d : TypeDesc) (i : TypeInfo) (z : Value) (kz vz : List Value), P.underlying t = some (.map kt et) ∧ U.mp k = some (cks, ka, va) ∧ cmpAt P 20 kt = some cks ∧ P.underlying kt = some d ∧ descAgg d = ka ∧
    P.info? et = some i ∧ i.zero = some z ∧ U.enc k (U.dfl k) = (kz ++ vz).map T.lit ∧ kz.length = cks.length ∧ mkV va vz z

structure TabOk (P : Program) (U : Uni) (tab : Tab) : Prop where
  int : ∀ t k, tab.ty t = .int k → P.underlying t = some (.int k)
  bool : ∀ t, tab.ty t = .bool → P.underlying t = some .bool
  str : ∀ t, tab.ty t = .str → P.underlying t = some .string
  slice : ∀ t k, tab.ty t = .slice k → P.underlying t = some (.slice (U.ty k)) ∧ ∃ i z, P.info? (U.ty k) = some i ∧ i.zero = some z ∧ i.size = U.sz k ∧ z.cells.size = U.sz k ∧ 0 < U.sz k ∧ i.bytes ≤ 512 ∧ ZeroL z.cells.toList (U.enc k (U.dfl k))
  agg : ∀ t (fs : List (Nat × Nat × Bool)), tab.ty t = .agg fs → ∃ fields : Array Field, P.underlying t = some (.struct fields) ∧ fields.size = fs.length ∧ ∀ (f off n : Nat) (g : Bool), fs[f]? = some (off, n, g) → ∃ (fd : Field) (i : TypeInfo) (d : TypeDesc), fields[f]? = some fd ∧ fd.offset = off ∧ P.info? fd.type = some i ∧ i.size = n ∧ n ≠ 0 ∧ P.underlying fd.type = some d ∧ descAgg d = g
  lay : ∀ t L, tab.lay t = some L → ∃ (i : TypeInfo) (z : Value) (d : TypeDesc), P.info? t = some i ∧ i.size = L.size ∧ i.zero = some z ∧ z.cells.toList = L.zero ∧ P.underlying t = some d ∧ descAgg d = L.agg
  map : ∀ t k, tab.ty t = .map k → MapTy P U t k
  arr : ∀ t n m g, tab.ty t = .arr n m g → ∃ (n' : Nat) (e : TypeId) (i : TypeInfo), P.underlying t = some (.array n' e) ∧ P.info? e = some i ∧ i.size = m
  cmp : ∀ t cs, tab.cmp t = some cs → cmpAt P 20 t = some cs ∧ P.eqGuardType P.depth t = false ∧ ∃ fs, P.underlying t = some (.struct fs)

theorem put_slot {s : St U} {d : Option Nat} {e : Eff U} : (s.put d e).slot = putSl s.slot d e.dst := by
  funext i
  cases d <;> rfl

theorem put_chunk {s : St U} {d : Option Nat} {v : SV} : (s.put d ⟨v, []⟩).chunk = s.chunk := rfl

section
variable {P : Program} {tab : Tab} {w0 : World} {M : Own} {N : Nat} {s : St U} {a : Act} {w : World} {ρ : Nat → Value} {F : Nat → List Nat}

theorem wp_value {o : Oper} {K : Act → World → Prop} {Q : Exit → Act → World → Prop} {v : Value} {w' : World} (h : (execOp a.eval o).run P w = .ok (.value v) w') (hk : K (a.put o.dst v) w') : o.wp P a w K Q := by
  unfold Oper.wp; rw [h]; exact hk

theorem wp_skip' {o : Oper} {K : Act → World → Prop} {Q : Exit → Act → World → Prop} {w' : World} (h : (execOp a.eval o).run P w = .ok .skip w') (hk : K (a.put o.dst undef) w') : o.wp P a w K Q := by
  unfold Oper.wp; rw [h]; exact hk

/-- Labels that hold: what is there under them is there. -/
def TagsHold (s : St U) (tags : List (Nat × Bool)) : Prop := tags ≠ [] → ∀ i t g v, s.slot i = .when t g v → subTags t tags = true → g = true

theorem strip_ok {tags : List (Nat × Bool)} (hg : TagsHold s tags) {i : Nat} {v : SV} {x : Value} (h : strip tags (s.slot i) = some v) (hm : Mat w ρ s.chunk (s.slot i) x) : Mat w ρ s.chunk v x := by
  cases e : s.slot i with
  | when t g y =>
    rw [e] at h hm
    simp only [strip] at h
    cases hc : (!tags.isEmpty && subTags t tags) with
    | false => rw [hc] at h; simp at h
    | true =>
      rw [hc] at h
      simp only [cond_true] at h
      injection h with h; subst h
      simp only [Bool.and_eq_true, Bool.not_eq_true', List.isEmpty_eq_false_iff] at hc
      simp only [Mat] at hm
      exact hm.1 (hg hc.1 i t g _ e hc.2)
  | _ => rw [e] at h hm; simp only [strip] at h; injection h with h; subst h; exact hm

theorem opd_ok (hS : Sat w0 M N s.slot s.chunk ρ F a w) {tags : List (Nat × Bool)} (hg : TagsHold s tags) {x : Operand} {v : SV} (h : (opd (U := U) tags x).run s = some v) : Mat w ρ s.chunk v (a.eval x) := by
  cases x with
  | tmp t =>
    simp only [opd, Rd.run] at h
    exact strip_ok hg (Rd.run_of h) (hS.slots t)
  | const c => simp [opd, Rd.run] at h; subst h; simp [Mat, Act.eval]
  | func f => simp [opd, Rd.run] at h; subst h; simp [Mat, MatL, Act.eval]
  | global g => simp [opd, Rd.run] at h

theorem opds_ok (hS : Sat w0 M N s.slot s.chunk ρ F a w) {tags : List (Nat × Bool)} (hg : TagsHold s tags) : ∀ {xs : List Operand} {vs : List SV}, (opds (U := U) tags xs).run s = some vs → MatL w ρ s.chunk vs (xs.map a.eval)
  | [], vs, h => by simp [opds, Rd.run] at h; subst h; simp [MatL]
  | x :: xs, vs, h => by
    obtain ⟨v, h1, h⟩ := Rd.run_bind h
    obtain ⟨r, h2, h⟩ := Rd.run_bind h
    simp [Rd.run] at h; subst h
    simp only [MatL, List.map_cons]
    exact ⟨_, _, rfl, opd_ok hS hg h1, opds_ok hS hg h2⟩

theorem MatL.get : ∀ {ss : List SV} {vs : List Value} {i : Nat} {x : SV}, MatL w ρ s.chunk ss vs → ss[i]? = some x → ∃ v, vs[i]? = some v ∧ Mat w ρ s.chunk x v
  | [], vs, i, x, h, hi => by simp at hi
  | y :: ss, vs, 0, x, h, hi => by
    simp only [MatL] at h; obtain ⟨v, r, rfl, h1, h2⟩ := h
    simp at hi; subst hi; exact ⟨v, rfl, h1⟩
  | y :: ss, vs, i + 1, x, h, hi => by
    simp only [MatL] at h; obtain ⟨v, r, rfl, h1, h2⟩ := h
    simpa using h2.get (i := i) (by simpa using hi)

theorem MatL.len : ∀ {ss : List SV} {vs : List Value}, MatL w ρ s.chunk ss vs → vs.length = ss.length
  | [], vs, h => by simp only [MatL] at h; subst h; rfl
  | y :: ss, vs, h => by
    simp only [MatL] at h; obtain ⟨v, r, rfl, h1, h2⟩ := h
    simp [h2.len]

/-- A value without memory's turning. -/
theorem pure_ok {o : Oper} {Q : Exit → Act → World → Prop} {K : Act → World → Prop} {sv : SV} {v : Value} (hS : Sat w0 M N s.slot s.chunk ρ F a w) (hd : inside N o.dst = true) (hr : (execOp a.eval o).run P w = .ok (.value v) w) (hm : Mat w ρ s.chunk sv v)
    (hk : ∀ a' w', SatE w0 M N (s.put o.dst ⟨sv, []⟩) a' w' → K a' w') : o.wp P a w K Q := by
  refine wp_value hr (hk _ _ ⟨ρ, F, ?_⟩)
  rw [put_slot, put_chunk]
  exact hS.put hd fun _ _ => hm

theorem kindEq_eq {k k' : IntKind} (h : kindEq k k' = true) : k = k' := by cases k <;> cases k' <;> first | rfl | (simp [kindEq] at h)

theorem intBin_ok {op : BinOp} {t : TypeId} {k : IntKind} {x y : Int} {nb : Option Bool} {sv : SV} (h : intBin op k x y = some (nb, sv)) (hn : ∀ b, nb = some b → b = true) : ∃ v, (binOp op t (.int k x) (.int k y)).run P w = .ok v w ∧ sv = .lit v := by
  cases op <;> simp only [intBin, Option.some.injEq, Prod.mk.injEq, reduceCtorEq] at h <;> obtain ⟨rfl, rfl⟩ := h
  case quo =>
    have hy : y ≠ 0 := by simpa using hn _ rfl
    exact ⟨_, by simp [binOp, Op.intDiv, hy, Sem.run, pure], rfl⟩
  case rem =>
    have hy : y ≠ 0 := by simpa using hn _ rfl
    exact ⟨_, by simp [binOp, Op.intDiv, hy, Sem.run, pure], rfl⟩
  all_goals exact ⟨_, by simp [binOp, Op.intArith, Op.intCmp, Sem.run, pure]; try rfl, rfl⟩

theorem shiftB_ok {op : BinOp} {t : TypeId} {k k' : IntKind} {x y : Int} {nb : Option Bool} {sv : SV} (h : shiftB op k x y = some (nb, sv)) (hn : ∀ b, nb = some b → b = true) : ∃ v, (binOp op t (.int k x) (.int k' y)).run P w = .ok v w ∧ sv = .lit v := by
  cases op <;> simp only [shiftB, Option.some.injEq, Prod.mk.injEq, reduceCtorEq] at h <;> obtain ⟨rfl, rfl⟩ := h
  all_goals
    have hy : 0 ≤ y := by simpa using hn _ rfl
    have e : shN k y = (2 : Int) ^ (min y.toNat k.bits) := by
      unfold shN
      show ((2 ^ (min y.toNat k.bits) : Nat) : Int) = _
      rw [Int.natCast_pow]; rfl
    have hy' : ¬ y < 0 := by omega
    exact ⟨_, by simp only [binOp, Op.shift, if_neg hy']; rfl, by rw [e]⟩

theorem strBin_ok {op : BinOp} {t : TypeId} {x y : ByteArray} {nb : Option Bool} {sv : SV} (h : strBin op x y = some (nb, sv)) (hn : ∀ b, nb = some b → b = true) : ∃ v, (binOp op t (.string x) (.string y)).run P w = .ok v w ∧ sv = .lit v := by
  cases op <;> simp only [strBin, Option.some.injEq, Prod.mk.injEq, reduceCtorEq] at h <;> obtain ⟨rfl, rfl⟩ := h
  case add =>
    have hy : x.size + y.size ≤ most := by simpa using hn _ rfl
    refine ⟨_, ?_, rfl⟩
    have : ¬ (((x.size + y.size : Nat) : Int) > IntKind.i64.max) := by
      have e : IntKind.i64.max = 9223372036854775807 := by decide
      rw [e]; unfold most at hy; omega
    simp only [binOp, Op.stringOp]
    rw [if_neg this]; rfl
  all_goals exact ⟨_, rfl, rfl⟩
end
end
end Go.Proofs.YtchohkelpjfpcaaDoor.AX

/- The operations that turn no memory are what the small machine takes them for. No conditions. -/
namespace Go.Proofs.YtchohkelpjfpcaaDoor.AX
open Go Go.RowKit

section
variable {U : Uni} {P : Program} {tab : Tab} {w0 : World} {M : Own} {N : Nat} {s : St U} {a : Act} {w : World} {ρ : Nat → Value} {F : Nat → List Nat} {CR : FuncId → List (DV U) → DV U → List (DV U) → Prop}

theorem okE_inv {v : SV} {x : Out U} {e : Eff U} (h : (okE (U := U) v).run s = some x) (hr : Resolves CR x e) : e = ⟨v, []⟩ := by
  simp [okE, Rd.run] at h; subst h; cases hr; rfl
theorem okN_inv {b : Bool} {v : SV} {x : Out U} {e : Eff U} (h : (okN (U := U) b v).run s = some x) (hr : Resolves CR x e) : b = true ∧ e = ⟨v, []⟩ := by
  simp [okN, Rd.run] at h; subst h
  cases hr with
  | need _ _ _ hb h => cases h; exact ⟨hb, rfl⟩
theorem needO_inv {b : Option Bool} {o : Out U} {e : Eff U} (hr : Resolves CR (needO b o) e) : (∀ c, b = some c → c = true) ∧ Resolves CR o e := by
  cases b with
  | none => exact ⟨fun c h => by simp at h, hr⟩
  | some b =>
    simp only [needO] at hr
    cases hr with
    | need _ _ _ hb h => exact ⟨fun c e => by injection e with e; subst e; exact hb, h⟩

/-- What a pure operation comes to. -/
def Pure (P : Program) (s : St U) (a : Act) (w : World) (ρ : Nat → Value) (o : Oper) (e : Eff U) : Prop :=
  ∃ sv v, e = ⟨sv, []⟩ ∧ (execOp a.eval o).run P w = .ok (.value v) w ∧ Mat w ρ s.chunk sv v

theorem mat_lit {v x : Value} : Mat w ρ s.chunk (.lit x) v ↔ v = x := by simp [Mat]

theorem add_add (a : Addr) (m n : Nat) : (a.add m).add n = a.add (m + n) := by
  unfold Addr.add
  by_cases hm : m = 0
  · subst hm; simp
  · by_cases hn : n = 0
    · subst hn; simp [hm]
    · rw [if_neg hm, if_neg hn, if_neg (by omega)]; simp [Nat.add_assoc]

/-- The row behind a slice's name. -/
theorem getRow_inv {id ver : Nat} {p : List (Int × Nat)} {r : Row U} (h : (getRow (U := U) id ver p).run s = some r) : ∃ own v k l, s.chunk id = .row own v k l ∧ followR ⟨k, l⟩ p = some r ∧ (p = [] ∨ ver = v) := by
  simp only [getRow, Rd.run] at h
  cases e : s.chunk id with
  | row own v k l =>
    rw [e] at h
    have h := Rd.run_of h
    refine ⟨own, v, k, l, rfl, ?_⟩
    cases p with
    | nil => simp only [rowIn] at h; exact ⟨by simpa [followR] using h, .inl rfl⟩
    | cons y p =>
      simp only [rowIn] at h
      cases hv : Nat.beq v ver with
      | false => rw [hv] at h; simp at h
      | true => rw [hv] at h; exact ⟨h, .inr (Nat.eq_of_beq_eq_true hv).symm⟩
  | _ => rw [e] at h; simp [Rd.run] at h

/-- A slice's name tells where its row lies. -/
theorem slc_rep (hu : UniOk U) (hS : Sat w0 M N s.slot s.chunk ρ F a w) {id ver : Nat} {p : List (Int × Nat)} {r : Row U} {v : Value} (h : (getRow (U := U) id ver p).run s = some r) (hm : Mat w ρ s.chunk (.slc id ver p) v) :
    ∃ own d G, RepT own d w v (.row r.1 r.2) G ∧ (∀ b ∈ G, b ∈ F id) := by
  obtain ⟨own, cv, k, l, e, hf, hv⟩ := getRow_inv h
  simp only [Mat, e, MatS] at hm
  obtain ⟨_, h1, h2, h3⟩ := hm
  have hrep := hS.rep id
  rw [e] at hrep
  obtain ⟨d, hrep⟩ := hrep
  have hfol : Fol w (ρ id) (⟨k, l⟩ : Row U) p v := by
    rcases hv with hv | hv
    · subst hv; exact h1 rfl
    · exact h3 hv
  obtain ⟨r1, d', F1, g1, g2, g3⟩ := hfol.rep hu hrep
  rw [hf] at g1; injection g1 with g1; subst g1
  exact ⟨own, d', F1, g2, g3⟩

theorem RepT.row_slice {own : Bool} {d : Nat} {v : Value} {k : Nat} {l : List (U.El k)} {G : List Nat} (h : RepT own d w v (.row k l) G) : ∃ A cap, v = .slice A l.length cap ∧ l.length ≤ cap ∧ cap ≤ maxLen := by
  cases d with
  | zero => exact h.elim
  | succ d => obtain ⟨cells, B, G', h1, _⟩ := h; exact h1.slice

theorem lenSV_ok (hu : UniOk U) (hS : Sat w0 M N s.slot s.chunk ρ F a w) {k : Nat} {x : SV} {v : Value} {n : Int} (h : (lenSV (U := U) k x).run s = some n) (hm : Mat w ρ s.chunk x v) : ∃ A m cap, v = .slice A m cap ∧ n = (m : Int) ∧ m ≤ cap := by
  unfold lenSV at h
  split at h
  · simp [Rd.run] at h; subst h
    rw [mat_lit] at hm; exact ⟨_, 0, 0, hm, rfl, Nat.le_refl _⟩
  · have hq_ := Rd.run_bind h; clear h; obtain ⟨r, h1, h⟩ := hq_
    obtain ⟨own, d, G, hr, _⟩ := slc_rep hu hS h1 hm
    obtain ⟨A, cap, e, hc, _⟩ := hr.row_slice
    cases hk : Nat.beq r.1 k with
    | false => rw [hk] at h; simp [Rd.run] at h
    | true => rw [hk] at h; simp [Rd.run] at h; exact ⟨A, _, cap, e, h.symm, hc⟩
  · rename_i id ver p off len
    have hq_ := Rd.run_bind h; clear h; obtain ⟨r, h1, h⟩ := hq_
    obtain ⟨own, cv, k', l, e, hf, hv⟩ := getRow_inv h1
    simp only [Mat, e, MatW] at hm
    obtain ⟨_, h2, h3⟩ := hm
    obtain ⟨r1, v1, A, cap, hs, e1, e2, e3, e4, A', e5, e6⟩ := h3 hv
    have hs2 := hs.2
    rw [hf] at hs2; injection hs2 with hs2; subst hs2
    have hrep := hS.rep id
    rw [e] at hrep
    obtain ⟨d, hrep⟩ := hrep
    obtain ⟨rr, d', F1, g1, g2, g3⟩ := hs.1.rep hu hrep
    rw [hs.2] at g1; injection g1 with g1; subst g1
    obtain ⟨A2, cap2, e7, hc, _⟩ := g2.row_slice
    rw [e1] at e7; injection e7 with _ _ e7; subst e7
    cases hk : Nat.beq r.1 k with
    | false => rw [hk] at h; simp [Rd.run] at h
    | true => rw [hk] at h; simp [Rd.run] at h; subst h; exact ⟨A', _, _, e5, by omega, by omega⟩
  · simp [Rd.run] at h

theorem run_fieldPlace {A : Addr} {fd : Field} {i : TypeInfo} (hi : P.info? fd.type = some i) (hn : i.size ≠ 0) : (fieldPlace A fd).run P w = .ok (A.add fd.offset) w := by
  simp [fieldPlace, sizeOf, typeInfo, hi, hn]

theorem pure_fieldAddr (hT : TabOk P U tab) (hS : Sat w0 M N s.slot s.chunk ρ F a w) {tags : List (Nat × Bool)} (hg : TagsHold s tags) {o : Oper} {t : TypeId} {x : Operand} {f : Nat} (ho : o.op = .fieldAddr t x f) {sig : Sig} {dst : Nat → Option Nat} {y : Out U} {e : Eff U}
    (h : (aop tab sig dst tags o).run s = some y) (hr : Resolves CR y e) : Pure P s a w ρ o e := by
  simp only [aop, ho] at h
  split at h
  · rename_i fs hty
    have hq_ := Rd.run_bind h; clear h; obtain ⟨v, h1, h⟩ := hq_
    have hm := opd_ok hS hg h1
    split at h
    · rename_i id ver p i c off n g hf
      have := okE_inv h hr
      subst this
      obtain ⟨fields, hun, hsz, hfs⟩ := hT.agg t fs hty
      obtain ⟨fd, inf, d, hfd, hoff, hin, hisz, hn, _, _⟩ := hfs f off n g hf
      simp only [Mat] at hm
      obtain ⟨A, hA, hm⟩ := hm
      refine ⟨_, .pointer (some (A.add off)), rfl, ?_, ?_⟩
      · simp only [execOp, ho, hA, Instr.fieldAt, Sem.run_bind, run_underlying hun w, Result.andThen_ok, hfd, Instr.sureAddr, Sem.run_pure, run_fieldPlace hin (by omega), hoff]
      · simp only [Mat]
        refine ⟨_, rfl, ?_⟩
        cases ec : s.chunk id with
        | fresh => rw [ec] at hm; exact hm
        | gone => trivial
        | mp _ _ => trivial
        | row own cv k l =>
          rw [ec] at hm
          refine ⟨hm.1, fun hv => ?_⟩
          obtain ⟨r1, v1, a', m, cap, q1, q2, q3, q4, q5⟩ := hm.2 hv
          exact ⟨r1, v1, a', m, cap, q1, q2, q3, q4, by rw [q5, add_add]; congr 1; omega⟩
        | holed cv k l i' c' =>
          rw [ec] at hm
          refine ⟨hm.1, fun hv => ?_⟩
          obtain ⟨a', m, cap, q2, q3, q4, q5⟩ := hm.2 hv
          exact ⟨a', m, cap, q2, q3, q4, by rw [q5, add_add]; congr 1; omega⟩
        | box ty cs =>
          rw [ec] at hm
          obtain ⟨b, q1, q2⟩ := hm
          exact ⟨b, q1, by rw [q2, add_add]⟩
    · simp [Rd.run] at h
  · simp [Rd.run] at h

theorem run_indexAt {t e : TypeId} {inf : TypeInfo} {A : Addr} {n cap : Nat} {k : IntKind} {i : Int} (ht : P.underlying t = some (.slice e)) (hi : P.info? e = some inf) (h0 : 0 ≤ i) (h1 : i < n) :
    (Instr.indexAt t (.slice (some A) n cap) (.int k i)).run P w = .ok (.pointer (some (A.add (i.toNat * inf.size)))) w := by
  simp [Instr.indexAt, asIntOf, run_underlying ht w, sizeOf, typeInfo, hi, h0, h1]

/-- A row's own slice, where it has elements. -/
theorem row_addr (hu : UniOk U) {own : Bool} {d : Nat} {v : Value} {r : Row U} {G : List Nat} (h : RepT own d w v (.row r.1 r.2) G) (hs : 0 < U.sz r.1) {i : Int} (hi : i.toNat < r.2.length) : ∃ A cap, v = .slice (some A) r.2.length cap := by
  cases d with
  | zero => exact h.elim
  | succ d =>
    have hc : (0 : Nat) < (U.enc r.1 (rd r i)).length := by rw [hu.len]; exact hs
    obtain ⟨A, cap, _, _, e, _⟩ := h.cellAt hu hi (c := 0) (t := (U.enc r.1 (rd r i))[0]) (by simp [hc])
    exact ⟨A, cap, e⟩

theorem pure_indexAddr (hT : TabOk P U tab) (hu : UniOk U) (hS : Sat w0 M N s.slot s.chunk ρ F a w) {tags : List (Nat × Bool)} (hg : TagsHold s tags) {o : Oper} {t : TypeId} {x ix : Operand} (ho : o.op = .indexAddr t x ix) {sig : Sig} {dst : Nat → Option Nat} {y : Out U} {e : Eff U}
    (h : (aop tab sig dst tags o).run s = some y) (hr : Resolves CR y e) : Pure P s a w ρ o e := by
  simp only [aop, ho] at h
  split at h
  · rename_i k hty
    have hq_ := Rd.run_bind h; clear h; obtain ⟨v, h1, h⟩ := hq_
    have hm := opd_ok hS hg h1
    have hq_ := Rd.run_bind h; clear h; obtain ⟨i, h2, h⟩ := hq_
    have hmi := opd_ok hS hg h2
    obtain ⟨hun, inf, z, hin, _, hisz, _, hpos, _, _⟩ := hT.slice t k hty
    split at h
    · rename_i id ver p ik n
      rw [mat_lit] at hmi
      have hq_ : (∃ cv k' l i' c', s.chunk id = .holed cv k' l i' c' ∧ p = [] ∧ Nat.beq k' k = true ∧ (okN (U := U) (decide (0 ≤ n) && decide (n < Int.ofNat l.length)) (.ptr id ver [] n 0)).run s = some y) ∨
          ((lenSV (U := U) k (.slc id ver p)).bind fun len => okN (decide (0 ≤ n) && decide (n < len)) (.ptr id ver p n 0)).run s = some y := by
        simp only [Rd.run] at h
        cases ec : s.chunk id with
        | holed cv k' l i' c' =>
          rw [ec] at h
          cases p with
          | cons y p => simp [Rd.run] at h
          | nil =>
            dsimp only at h
            cases hk : Nat.beq k' k with
            | false => rw [hk] at h; simp [Rd.run] at h
            | true => rw [hk] at h; exact .inl ⟨cv, k', l, i', c', rfl, rfl, hk, h⟩
        | _ => rw [ec] at h; exact .inr h
      clear h
      obtain ⟨cv, k', l, i', c', ec, rfl, hk, h⟩ | h := hq_
      · obtain ⟨hb, rfl⟩ := okN_inv h hr
        have hk := Nat.eq_of_beq_eq_true hk
        subst hk
        simp only [Bool.and_eq_true, decide_eq_true_eq] at hb
        obtain ⟨b0, b1⟩ := hb
        have hrep := hS.rep id
        rw [ec] at hrep
        obtain ⟨_, _, _, _, d, cells, B, G, hrow, _⟩ := hrep
        simp only [Mat, MatS, ec] at hm
        have hmv := hm.2.1 trivial
        have hl : 0 < l.length := by
          have : Int.ofNat l.length = (l.length : Int) := rfl
          omega
        have hcl : 0 < cells.length := by rw [hrow.len]; exact Nat.mul_pos hl hpos
        obtain ⟨A, cap, hv, _⟩ := hrow.cell (j := 0) (u := cells[0]) (by simp [hcl])
        have b1' : n < (l.length : Int) := b1
        refine ⟨_, .pointer (some (A.add (n.toNat * inf.size))), rfl, ?_, ?_⟩
        · simp only [execOp, ho, hmv, hv, hmi, Sem.run_bind, run_indexAt hun hin b0 b1', Result.andThen_ok, Sem.run_pure]
        · simp only [Mat, MatP]
          refine ⟨_, rfl, ?_⟩
          rw [ec]
          refine ⟨fun h => absurd rfl h, fun _ => ⟨A, l.length, cap, hv, b0, by omega, by rw [hisz]; rfl⟩⟩
      have hq_ := Rd.run_bind h; clear h; obtain ⟨len, h3, h⟩ := hq_
      obtain ⟨hb, rfl⟩ := okN_inv h hr
      simp only [lenSV] at h3
      have hq_ := Rd.run_bind h3; clear h3; obtain ⟨r, h4, h3⟩ := hq_
      cases hk : Nat.beq r.1 k with
      | false => rw [hk] at h3; simp [Rd.run] at h3
      | true =>
        rw [hk] at h3; simp [Rd.run] at h3; subst h3
        have hk := Nat.eq_of_beq_eq_true hk
        simp only [Bool.and_eq_true, decide_eq_true_eq] at hb
        obtain ⟨b0, b1⟩ := hb
        obtain ⟨own, d, G, hrep, _⟩ := slc_rep hu hS h4 hm
        obtain ⟨A, cap, hv⟩ := row_addr hu hrep (by rw [hk]; exact hpos) (i := n) (by omega)
        obtain ⟨own', cv, k', l, ec, hf, hve⟩ := getRow_inv h4
        refine ⟨_, .pointer (some (A.add (n.toNat * inf.size))), rfl, ?_, ?_⟩
        · simp only [execOp, ho, hv, hmi, Sem.run_bind, run_indexAt hun hin b0 b1, Result.andThen_ok, Sem.run_pure]
        · simp only [Mat, MatS] at hm ⊢
          refine ⟨_, rfl, ?_⟩
          rw [ec] at hm ⊢
          obtain ⟨_, m1, m2, m3⟩ := hm
          refine ⟨m2, fun hp => ?_⟩
          refine ⟨r, _, A, _, cap, ⟨?_, hf⟩, hv, b0, by omega, by rw [hk, hisz]; rfl⟩
          rcases hp with hp | hp
          · subst hp; exact m1 rfl
          · exact m3 hp
    · rename_i id ver p off len ik n
      rw [mat_lit] at hmi
      obtain ⟨len', h3, h⟩ := Rd.run_bind h
      obtain ⟨hb, rfl⟩ := okN_inv h hr
      simp only [lenSV] at h3
      have hq_ := Rd.run_bind h3; clear h3; obtain ⟨r, h4, h3⟩ := hq_
      cases hk : Nat.beq r.1 k with
      | false => rw [hk] at h3; simp [Rd.run] at h3
      | true =>
        have hk := Nat.eq_of_beq_eq_true hk
        clear h3
        simp only [Bool.and_eq_true, decide_eq_true_eq] at hb
        obtain ⟨b0, b1⟩ := hb
        obtain ⟨own', cv, k', l, ec, hf, hve⟩ := getRow_inv h4
        simp only [Mat, MatW, ec] at hm
        obtain ⟨_, m2, m3⟩ := hm
        obtain ⟨r1, v1, A, cap, hs, e1, e2, e3, e4, A', e5, e6⟩ := m3 hve
        have hs2 := hs.2
        rw [hf] at hs2; injection hs2 with hs2; subst hs2
        have hrep := hS.rep id
        rw [ec] at hrep
        obtain ⟨d, hrep⟩ := hrep
        obtain ⟨rr, d', F1, g1, g2, g3⟩ := hs.1.rep hu hrep
        rw [hs.2] at g1; injection g1 with g1; subst g1
        obtain ⟨A2, cap2, hv⟩ := row_addr hu g2 (by rw [hk]; exact hpos) (i := off + n) (by omega)
        obtain ⟨A3, cap3, e7, hc, _⟩ := g2.row_slice
        rw [e1] at e7; injection e7 with _ _ e7; subst e7
        rw [e1] at hv; injection hv with hv1 _ hv2; subst hv1 hv2
        have e8 := e6 (by omega)
        subst e8
        refine ⟨_, .pointer (some ((A2.add (off.toNat * U.sz r.1)).add (n.toNat * inf.size))), rfl, ?_, ?_⟩
        · simp only [execOp, ho, e5, hmi, Option.map_some, Sem.run_bind, run_indexAt hun hin b0 (show n < (len.toNat : Int) by omega), Result.andThen_ok, Sem.run_pure]
        · simp only [Mat]
          refine ⟨_, rfl, ?_⟩
          rw [ec]
          refine ⟨m2, fun hp => ?_⟩
          refine ⟨r, v1, A2, _, cap, hs, e1, by omega, by omega, ?_⟩
          rw [add_add]; congr 1
          rw [hk, hisz, show (off + n).toNat = off.toNat + n.toNat by omega, Nat.add_mul]; rfl
    · simp [Rd.run] at h
  · simp [Rd.run] at h

theorem MatL.drop : ∀ {n : Nat} {ss : List SV} {vs : List Value}, MatL w ρ s.chunk ss vs → MatL w ρ s.chunk (ss.drop n) (vs.drop n)
  | 0, _, _, h => h
  | _ + 1, [], vs, h => by simp only [MatL] at h; subst h; simp [MatL]
  | n + 1, x :: ss, vs, h => by
    simp only [MatL] at h; obtain ⟨v, r, rfl, h1, h2⟩ := h
    simpa using h2.drop (n := n)
theorem MatL.take : ∀ {n : Nat} {ss : List SV} {vs : List Value}, MatL w ρ s.chunk ss vs → MatL w ρ s.chunk (ss.take n) (vs.take n)
  | 0, _, _, h => by simp [MatL]
  | _ + 1, [], vs, h => by simp only [MatL] at h; subst h; simp [MatL]
  | n + 1, x :: ss, vs, h => by
    simp only [MatL] at h; obtain ⟨v, r, rfl, h1, h2⟩ := h
    simp only [List.take_succ_cons, MatL]
    exact ⟨v, _, rfl, h1, h2.take⟩

theorem cut_inv {α : Type} {c n : Nat} {l r : List α} (h : cut c n l = some r) : c + n ≤ l.length ∧ r = (l.drop c).take n := by
  unfold cut at h
  cases e : Nat.ble (c + n) l.length with
  | false => rw [e] at h; simp at h
  | true => rw [e] at h; simp at h; exact ⟨Nat.le_of_ble_eq_true e, h.symm⟩

theorem toSV_ok (hu : UniOk U) {own : Bool} {id cv : Nat} {k : Nat} {l : List (U.El k)} (ec : s.chunk id = .row own cv k l) {p : List (Int × Nat)} {r : Row U} {v1 : Value} {a' : Addr} {n cap : Nat} (hs : Spot w (⟨k, l⟩ : Row U) (ρ id) p r v1) (hv : v1 = .slice (some a') n cap)
    {i : Int} (h0 : 0 ≤ i) (hi : i.toNat < r.2.length) {R : Value → T U.El → List Nat → Prop} (hR : ∀ v x G, R v (.lit x) G → v = x) (hR' : ∀ v k l G, R v (.row k l) G → isSlice v) :
    ∀ (ts : List (T U.El)) (us : List Value) (G : List Nat) (c : Nat), RepL R us ts G → (∀ j t, ts[j]? = some t → (U.enc r.1 (rd r i))[c + j]? = some t) → (∀ j u, us[j]? = some u → w.cell? (a'.add (i.toNat * U.sz r.1 + (c + j))) = some u) →
      MatL w ρ s.chunk (toSV (U := U) id cv p i ts c) us
  | [], [], G, c, _, _, _ => by simp [toSV, MatL]
  | [], _ :: _, _, _, h, _, _ => h.elim
  | _ :: _, [], _, _, h, _, _ => h.elim
  | t :: ts, u :: us, G, c, ⟨F1, F2, h1, h2, _⟩, ht, hc => by
    have ih := toSV_ok hu ec hs hv h0 hi hR hR' ts us F2 (c + 1) h2 (fun j t hj => by rw [show c + 1 + j = c + (j + 1) by omega]; exact ht (j + 1) t (by simpa using hj)) (fun j u hj => by rw [show c + 1 + j = c + (j + 1) by omega]; exact hc (j + 1) u (by simpa using hj))
    cases t with
    | lit x =>
      simp only [toSV, MatL]
      exact ⟨u, us, rfl, by rw [mat_lit]; exact hR _ _ _ h1, ih⟩
    | row k' l' =>
      simp only [toSV, MatL]
      refine ⟨u, us, rfl, ?_, ih⟩
      simp only [Mat, MatS, ec]
      refine ⟨hR' _ _ _ _ h1, fun e => by simp at e, fun _ => Nat.le_refl _, fun _ => ?_⟩
      exact hs.1.snoc hs.2 hv h0 hi (hc 0 u rfl) (ht 0 _ rfl)

/-- The cells behind a pointer. -/
theorem loadN_ok (hu : UniOk U) (hS : Sat w0 M N s.slot s.chunk ρ F a w) {id ver : Nat} {p : List (Int × Nat)} {i : Int} {c n : Nat} {cs : List SV} {v : Value} (h : (loadN (U := U) id ver p i c n).run s = some cs) (hm : Mat w ρ s.chunk (.ptr id ver p i c) v) :
    ∃ A vs, v = .pointer (some A) ∧ vs.length = n ∧ (∀ j u, vs[j]? = some u → w.cell? (A.add j) = some u) ∧ MatL w ρ s.chunk cs vs := by
  simp only [Mat] at hm
  obtain ⟨A, hA, hm⟩ := hm
  simp only [loadN, Rd.run] at h
  cases ec : s.chunk id with
  | fresh => rw [ec] at hm; exact hm.elim
  | gone => rw [ec] at h; simp [Rd.run] at h
  | mp => rw [ec] at h; simp [Rd.run] at h
  | holed => rw [ec] at h; simp [Rd.run] at h
  | box ty bs =>
    rw [ec] at h hm
    obtain ⟨b, e1, e2⟩ := hm
    obtain ⟨b', cur, e3, e4, e5⟩ := hS.box id ty bs ec
    rw [e1] at e3; injection e3 with e3; injection e3 with e3; injection e3 with e3 _ _; subst e3
    cases p with
    | cons y p => simp [Rd.run] at h
    | nil =>
      obtain ⟨hl, rfl⟩ := cut_inv (Rd.run_of h)
      refine ⟨A, (cur.toList.drop c).take n, hA, ?_, fun j u hj => ?_, (e5.drop).take⟩
      · have := e5.len; simp only [List.length_take, List.length_drop]; omega
      · rw [e2, add_add]
        have : cur[c + j]? = some u := by
          rw [List.getElem?_take] at hj
          split at hj
          · rw [List.getElem?_drop] at hj; simpa using hj
          · simp at hj
        have hadd : (⟨b, 0, none⟩ : Addr).add (c + j) = ⟨b, c + j, none⟩ := by
          unfold Addr.add; split
          · rename_i e; rw [e]
          · simp
        rw [hadd, cell_of_row w b _ cur ty (0, 0) e4]; exact this
  | row own cv k l =>
    rw [ec] at h hm
    dsimp only at h
    cases er : rowIn ver p cv (⟨k, l⟩ : Row U) with
    | none => rw [er] at h; simp [Rd.run] at h
    | some r =>
      rw [er] at h
      obtain ⟨hl, rfl⟩ := cut_inv (Rd.run_of h)
      have hg : (getRow (U := U) id ver p).run s = some r := by simp only [getRow, Rd.run, ec, er]; rfl
      obtain ⟨own', cv', k', l', ec', hf, hve⟩ := getRow_inv hg
      rw [ec] at ec'; injection ec' with _ q2 q3 q4; subst q2 q3; cases q4
      obtain ⟨r1, v1, a', m, cap, hs, e1, h0, hi, e3⟩ := hm.2 hve
      have hs2 := hs.2
      rw [hf] at hs2; injection hs2 with hs2; subst hs2
      have hrep := hS.rep id
      rw [ec] at hrep
      obtain ⟨d, hrep⟩ := hrep
      obtain ⟨rr, d', F1, g1, g2, g3⟩ := hs.1.rep hu hrep
      rw [hs.2] at g1; injection g1 with g1; subst g1
      cases d' with
      | zero => exact g2.elim
      | succ d' =>
        obtain ⟨us, G, hlen, hcell, hL, _⟩ := g2.elemAt hu hi e1
        have hM := toSV_ok (s := s) (p := p) hu ec hs e1 h0 hi (fun v x G h => by cases d' <;> exact h.1) (fun v k l G h => by obtain ⟨A, cap, e, _⟩ := RepT.row_slice h; exact ⟨A, _, cap, e⟩) _ us G 0 hL (fun j t hj => by simpa using hj) (fun j u hj => by simpa using (hcell j u hj).1)
        have hlt : (toSV (U := U) id cv p i (U.enc r.1 (rd r i)) 0).length = U.sz r.1 := by rw [← hM.len]; exact hlen
        refine ⟨A, (us.drop c).take n, hA, by simp only [List.length_take, List.length_drop]; omega, fun j u hj => ?_, (hM.drop).take⟩
        rw [e3, add_add]
        have : us[c + j]? = some u := by
          rw [List.getElem?_take] at hj
          split at hj
          · rw [List.getElem?_drop] at hj; simpa using hj
          · simp at hj
        have := (hcell _ _ this).1
        rw [show i.toNat * U.sz r.1 + c + j = i.toNat * U.sz r.1 + (c + j) by omega]; exact this

theorem run_isAgg {t : TypeId} {d : TypeDesc} (h : P.underlying t = some d) : (isAgg t).run P w = .ok (descAgg d) w := by
  unfold isAgg
  rw [Sem.run_bind, run_underlying h w]
  cases d <;> rfl

theorem pure_load (hT : TabOk P U tab) (hu : UniOk U) (hS : Sat w0 M N s.slot s.chunk ρ F a w) {tags : List (Nat × Bool)} (hg : TagsHold s tags) {o : Oper} {t : TypeId} {x : Operand} (ho : o.op = .load t x) {sig : Sig} {dst : Nat → Option Nat} {y : Out U} {e : Eff U}
    (h : (aop tab sig dst tags o).run s = some y) (hr : Resolves CR y e) : Pure P s a w ρ o e := by
  simp only [aop, ho] at h
  have hq := Rd.run_bind h; clear h; obtain ⟨v, h1, h⟩ := hq
  have hm := opd_ok hS hg h1
  split at h
  · rename_i id ver p i c
    have hq := Rd.run_bind h; clear h; obtain ⟨L, h2, h⟩ := hq
    replace h2 := Rd.run_of h2
    have hq := Rd.run_bind h; clear h; obtain ⟨cs, h3, h⟩ := hq
    obtain ⟨A, vs, hA, hl, hc, hM⟩ := loadN_ok hu hS h3 hm
    obtain ⟨inf, z, d, hin, hsz, _, _, hun, hag⟩ := hT.lay t L h2
    split at h
    · rename_i cs' hL
      have := okE_inv h hr
      subst this
      refine ⟨_, .agg vs.toArray, rfl, ?_, by simp only [Mat]; exact ⟨vs, rfl, hM⟩⟩
      have hload := run_loadCells_list (P := P) w A vs (fun j u hj => hc j u hj)
      have : (loadVar t A).run P w = .ok (.agg vs.toArray) w := by
        simp [loadVar, run_isAgg hun, hag, hL, sizeOf, typeInfo, hin, hsz, ← hl, hload]
      simp only [execOp, ho, hA, Instr.loadAt, Instr.sureAddr, Sem.run_bind, Sem.run_pure, Result.andThen_ok, this]
    · rename_i sv hL
      have := okE_inv h hr
      subst this
      simp only [MatL] at hM
      obtain ⟨u, r, rfl, hM, hr2⟩ := hM
      subst hr2
      refine ⟨_, u, rfl, ?_, hM⟩
      have hcu := hc 0 u rfl
      have hadd : A.add 0 = A := by simp [Addr.add]
      rw [hadd] at hcu
      have : (loadVar t A).run P w = .ok u w := by
        simp [loadVar, run_isAgg hun, hag, hL, hcu]
      simp only [execOp, ho, hA, Instr.loadAt, Instr.sureAddr, Sem.run_bind, Sem.run_pure, Result.andThen_ok, this]
    · simp [Rd.run] at h
  · simp [Rd.run] at h

end
end Go.Proofs.YtchohkelpjfpcaaDoor.AX

/- Parts compared: the cells, one by one. No conditions. -/
namespace Go.Proofs.YtchohkelpjfpcaaDoor.AX
open Go Go.RowKit

def ckEq : CK → Value → Value → Option Bool
  | .int k, .int k1 a, .int k2 b => bif kindEq k k1 && kindEq k k2 then some (a == b) else none
  | .bool, .bool a, .bool b => some (a == b)
  | .str, .string a, .string b => some (a.toList == b.toList)
  | _, _, _ => none
def cksEq : List CK → List Value → List Value → Option Bool
  | [], [], [] => some true
  | c :: cs, x :: xs, y :: ys => (ckEq c x y).bind fun b => (cksEq cs xs ys).bind fun r => some (b && r)
  | _, _, _ => none

def vOf (P : Program) (t : TypeId) (vs : List Value) : Value := match P.underlying t with
  | some (.struct _) => .agg vs.toArray
  | some (.array _ _) => .agg vs.toArray
  | _ => vs.headD undef

theorem cksEq_split : ∀ {ks r : List CK} {xs ys : List Value} {b : Bool}, cksEq (ks ++ r) xs ys = some b → ∃ b1 b2, cksEq ks (xs.take ks.length) (ys.take ks.length) = some b1 ∧ cksEq r (xs.drop ks.length) (ys.drop ks.length) = some b2 ∧ b = (b1 && b2) ∧ ks.length ≤ xs.length ∧ ks.length ≤ ys.length
  | [], r, xs, ys, b, h => ⟨true, b, by simp [cksEq], by simpa using h, by simp, by simp, by simp⟩
  | c :: ks, r, [], ys, b, h => by simp [cksEq] at h
  | c :: ks, r, x :: xs, [], b, h => by simp [cksEq] at h
  | c :: ks, r, x :: xs, y :: ys, b, h => by
    simp only [List.cons_append, cksEq, Option.bind_eq_some_iff] at h
    obtain ⟨b0, h0, b3, h3, e⟩ := h
    injection e with e
    obtain ⟨b1, b2, h1, h2, e2, l1, l2⟩ := cksEq_split h3
    refine ⟨b0 && b1, b2, ?_, by simpa using h2, by rw [← e, e2, Bool.and_assoc], by simp; omega, by simp; omega⟩
    simp [cksEq, h0, h1]

section
variable {P : Program}

theorem cksEq_len : ∀ {ks : List CK} {xs ys : List Value} {b : Bool}, cksEq ks xs ys = some b → xs.length = ks.length ∧ ys.length = ks.length
  | [], [], [], _, _ => ⟨rfl, rfl⟩
  | [], _ :: _, _, _, h => by simp [cksEq] at h
  | [], [], _ :: _, _, h => by simp [cksEq] at h
  | c :: ks, [], _, _, h => by simp [cksEq] at h
  | c :: ks, _ :: _, [], _, h => by simp [cksEq] at h
  | c :: ks, x :: xs, y :: ys, b, h => by
    simp only [cksEq, Option.bind_eq_some_iff] at h
    obtain ⟨b0, h0, b3, h3, e⟩ := h
    obtain ⟨h1, h2⟩ := cksEq_len h3
    simp [h1, h2]

/-- A part of parts. -/
theorem part_v {e : TypeId} {ks : List CK} {d : Nat} (hc : cmpAt P d e = some ks) (hs : P.cellsOf e = ks.length) (w : World) {xs : Array Value} {off : Nat} {vs : List Value} (hv : (xs.toList.drop off).take ks.length = vs) (hl : off + ks.length ≤ xs.size) :
    (part e xs off).run P w = .ok (vOf P e vs) w := by
  cases d with
  | zero => simp [cmpAt] at hc
  | succ d =>
    have single : ∀ {k : CK}, ks = [k] → ∀ {td : TypeDesc}, P.underlying e = some td → descAgg td = false → (∀ fs, td ≠ .struct fs) → (part e xs off).run P w = .ok (vOf P e vs) w := fun {k} hk {td} hu hd hns => by
      subst hk
      have hlt : off < xs.size := by simp at hl; omega
      have h1 : vs = [xs[off]] := by
        rw [← hv]
        show List.take 1 _ = _
        rw [List.take_one, List.head?_drop]
        simp [hlt]
      have h2 : vOf P e vs = xs[off] := by
        unfold vOf
        rw [hu, h1]
        cases td <;> first | rfl | exact absurd rfl (hns _) | (simp [descAgg] at hd; done)
      rw [h2]
      have : (isAgg e).run P w = .ok false w := by rw [← hd]; exact run_isAgg hu
      simp [part, Sem.run_bind, this, hlt]
    unfold cmpAt at hc
    split at hc
    · rename_i k hu; injection hc with hc; exact single hc.symm hu rfl (fun fs h => by cases h)
    · rename_i hu; injection hc with hc; exact single hc.symm hu rfl (fun fs h => by cases h)
    · rename_i hu; injection hc with hc; exact single hc.symm hu rfl (fun fs h => by cases h)
    · rename_i fs hu
      obtain ⟨i, hi⟩ := info_of_underlying hu
      have h2 : vOf P e vs = .agg vs.toArray := by unfold vOf; rw [hu]
      rw [h2]
      have hag : (isAgg e).run P w = .ok true w := run_isAgg hu
      have hsz : (sizeOf e).run P w = .ok (P.cellsOf e) w := run_sizeOf w hi
      simp only [part, Sem.run_bind, hag, Result.andThen_ok, if_true, hsz, Sem.run_pure]
      congr 2
      apply Array.ext'
      rw [Array.toList_extract, hs, ← hv]
      simp [List.extract]
    · rename_i n e0 hu
      obtain ⟨i, hi⟩ := info_of_underlying hu
      have h2 : vOf P e vs = .agg vs.toArray := by unfold vOf; rw [hu]
      rw [h2]
      have hag : (isAgg e).run P w = .ok true w := run_isAgg hu
      have hsz : (sizeOf e).run P w = .ok (P.cellsOf e) w := run_sizeOf w hi
      simp only [part, Sem.run_bind, hag, Result.andThen_ok, if_true, hsz, Sem.run_pure]
      congr 2
      apply Array.ext'
      rw [Array.toList_extract, hs, ← hv]
      simp [List.extract]
    · simp at hc

theorem fields_eq {d D : Nat} (w : World) (ih : ∀ t ks, cmpAt P d t = some ks → ∀ xs ys b, cksEq ks xs ys = some b → (Op.equalIn D t (vOf P t xs) (vOf P t ys)).run P w = .ok b w) {xs ys : Array Value} :
    ∀ (fs : List Field) (off : Nat) (ks : List CK) (b : Bool), cmpFs P (cmpAt P d) fs off = some ks → cksEq ks (xs.toList.drop off) (ys.toList.drop off) = some b → (Op.eqFields D xs ys fs).run P w = .ok b w
  | [], off, ks, b, h, hb => by
    simp only [cmpFs, Option.some.injEq] at h
    subst h
    cases e1 : xs.toList.drop off with
    | cons _ _ => rw [e1] at hb; simp [cksEq] at hb
    | nil =>
      cases e2 : ys.toList.drop off with
      | cons _ _ => rw [e1, e2] at hb; simp [cksEq] at hb
      | nil => rw [e1, e2] at hb; simp [cksEq] at hb; subst hb; simp [Op.eqFields]
  | f :: fs, off, ks, b, h, hb => by
    simp only [cmpFs] at h
    cases hn : (f.name != "_" && Nat.beq f.offset off) with
    | false => rw [hn] at h; simp at h
    | true =>
      rw [hn] at h
      simp only [cond_true, Option.bind_eq_some_iff] at h
      obtain ⟨k1, h1, h⟩ := h
      cases hc : (Nat.blt 0 k1.length && Nat.beq (P.cellsOf f.type) k1.length) with
      | false => rw [hc] at h; simp at h
      | true =>
        rw [hc] at h
        simp only [cond_true, Option.bind_eq_some_iff, Option.some.injEq] at h
        obtain ⟨r, h2, rfl⟩ := h
        simp only [Bool.and_eq_true, bne_iff_ne] at hn hc
        have hoff := Nat.eq_of_beq_eq_true hn.2
        have hsz := Nat.eq_of_beq_eq_true hc.2
        have hpos : 0 < k1.length := Nat.lt_of_lt_of_le (Nat.zero_lt_one) (Nat.le_of_ble_eq_true hc.1)
        obtain ⟨b1, b2, g1, g2, rfl, l1, l2⟩ := cksEq_split hb
        rw [List.length_drop] at l1 l2
        have s1 : xs.toList.length = xs.size := Array.length_toList
        have s2 : ys.toList.length = ys.size := Array.length_toList
        rw [List.drop_drop, List.drop_drop] at g2
        have p1 := part_v (P := P) h1 hsz w (xs := xs) (off := off) rfl (by omega)
        have p2 := part_v (P := P) h1 hsz w (xs := ys) (off := off) rfl (by omega)
        have p3 := ih _ _ h1 _ _ _ g1
        have p4 := fields_eq w ih fs _ _ _ h2 g2
        simp only [Op.eqFields, hn.1, ne_eq, not_false_eq_true, if_true, Sem.run_bind, hoff, p1, p2, p3, Result.andThen_ok]
        cases b1 with
        | false => simp
        | true => simpa using p4

/-- A row of parts of one cell each. -/
theorem items_eq {d D : Nat} {e : TypeId} {c : CK} (w : World) (h1 : cmpAt P d e = some [c]) (hsz : P.cellsOf e = 1) (ih : ∀ xs ys b, cksEq [c] xs ys = some b → (Op.equalIn D e (vOf P e xs) (vOf P e ys)).run P w = .ok b w) {xs ys : Array Value} :
    ∀ (n off : Nat) (b : Bool), cksEq (List.replicate n c) (xs.toList.drop off) (ys.toList.drop off) = some b → (Op.eqItems D e (P.cellsOf e) xs ys (List.range' off n)).run P w = .ok b w
  | 0, off, b, hb => by
    simp only [List.replicate_zero] at hb
    cases e1 : xs.toList.drop off with
    | cons _ _ => rw [e1] at hb; simp [cksEq] at hb
    | nil =>
      cases e2 : ys.toList.drop off with
      | cons _ _ => rw [e1, e2] at hb; simp [cksEq] at hb
      | nil => rw [e1, e2] at hb; simp [cksEq] at hb; subst hb; simp [Op.eqItems]
  | n + 1, off, b, hb => by
    rw [List.replicate_succ, show c :: List.replicate n c = [c] ++ List.replicate n c from rfl] at hb
    obtain ⟨b1, b2, g1, g2, rfl, l1, l2⟩ := cksEq_split hb
    rw [List.length_drop] at l1 l2
    have s1 : xs.toList.length = xs.size := Array.length_toList
    have s2 : ys.toList.length = ys.size := Array.length_toList
    have l1 : 1 ≤ xs.toList.length - off := l1
    have l2 : 1 ≤ ys.toList.length - off := l2
    rw [List.drop_drop, List.drop_drop] at g2
    have g2 : cksEq (List.replicate n c) (xs.toList.drop (off + 1)) (ys.toList.drop (off + 1)) = some b2 := g2
    have p1 := part_v (P := P) h1 hsz w (xs := xs) (off := off) rfl (by show off + 1 ≤ _; omega)
    have p2 := part_v (P := P) h1 hsz w (xs := ys) (off := off) rfl (by show off + 1 ≤ _; omega)
    have p3 := ih _ _ _ g1
    have p4 := items_eq w h1 hsz ih n (off + 1) _ g2
    rw [hsz] at p4 ⊢
    rw [List.range'_succ]
    simp only [Op.eqItems, Sem.run_bind, Nat.mul_one, p1, p2, p3, Result.andThen_ok]
    cases b1 with
    | false => simp
    | true => simpa using p4

theorem equalIn_ok : ∀ (d D : Nat), d ≤ D → ∀ (t : TypeId) (ks : List CK), cmpAt P d t = some ks → ∀ (w : World) (xs ys : List Value) (b : Bool), cksEq ks xs ys = some b → (Op.equalIn D t (vOf P t xs) (vOf P t ys)).run P w = .ok b w
  | 0, _, _, t, ks, h, _, _, _, _, _ => by simp [cmpAt] at h
  | d + 1, 0, hd, _, _, _, _, _, _, _, _ => by omega
  | d + 1, D + 1, hd, t, ks, h, w, xs, ys, b, hb => by
    have one : ∀ {k : CK}, ks = [k] → ∃ x y, xs = [x] ∧ ys = [y] ∧ ckEq k x y = some b := fun {k} e => by
      subst e
      obtain ⟨l1, l2⟩ := cksEq_len hb
      obtain ⟨x, rfl⟩ := List.length_eq_one_iff.1 l1
      obtain ⟨y, rfl⟩ := List.length_eq_one_iff.1 l2
      refine ⟨x, y, rfl, rfl, ?_⟩
      simp only [cksEq, Option.bind_eq_some_iff, Option.some.injEq] at hb
      obtain ⟨b0, h0, b1, rfl, rfl⟩ := hb
      rw [h0, Bool.and_true]
    unfold cmpAt at h
    split at h
    · rename_i k hu
      injection h with h
      obtain ⟨x, y, rfl, rfl, e⟩ := one h.symm
      unfold ckEq at e
      split at e <;> try (simp at e; done)
      · rename_i k0 k1 p k2 q hk
        injection hk with hk; subst hk
        cases hkk : (kindEq k k1 && kindEq k k2) with
        | false => rw [hkk] at e; simp at e
        | true =>
          rw [hkk] at e
          simp only [Bool.and_eq_true] at hkk
          have e1 := kindEq_eq hkk.1
          have e2 := kindEq_eq hkk.2
          subst e1 e2
          simp at e; subst e
          have : ∀ (z : List Value), vOf P t z = z.headD undef := fun z => by unfold vOf; rw [hu]
          rw [this, this]
          exact run_equalIn_int w D t _ k p q hu
      · rename_i h1; cases h1
      · rename_i h1; cases h1
    · rename_i hu
      injection h with h
      obtain ⟨x, y, rfl, rfl, e⟩ := one h.symm
      unfold ckEq at e
      split at e <;> try (simp at e; done)
      · rename_i h1; cases h1
      · simp at e; subst e
        have : ∀ (z : List Value), vOf P t z = z.headD undef := fun z => by unfold vOf; rw [hu]
        rw [this, this]
        exact run_equalIn_bool' w D t _ _ hu
      · rename_i h1; cases h1
    · rename_i hu
      injection h with h
      obtain ⟨x, y, rfl, rfl, e⟩ := one h.symm
      unfold ckEq at e
      split at e <;> try (simp at e; done)
      · rename_i h1; cases h1
      · rename_i h1; cases h1
      · simp at e; subst e
        have : ∀ (z : List Value), vOf P t z = z.headD undef := fun z => by unfold vOf; rw [hu]
        rw [this, this]
        exact run_equalIn_string w D t _ _ hu
    · rename_i fs hu
      cases hs : P.stoodInHeld t with
      | true => rw [hs] at h; simp at h
      | false =>
        rw [hs] at h
        simp only [cond_false] at h
        have hf : P.fieldsOf t = fs := by unfold Program.fieldsOf; rw [hu]
        have : ∀ (z : List Value), vOf P t z = .agg z.toArray := fun z => by unfold vOf; rw [hu]
        rw [this, this, run_equalIn_struct w D t _ _ (by rw [hf]; exact hu) hs, hf]
        exact fields_eq w (fun t' ks' h' xs' ys' b' hb' => equalIn_ok d D (by omega) t' ks' h' w xs' ys' b' hb') fs.toList 0 ks b h (by simpa using hb)
    · rename_i n e hu
      cases hsz : Nat.beq (P.cellsOf e) 1 with
      | false => rw [hsz] at h; simp at h
      | true =>
        rw [hsz] at h
        simp only [cond_true, Option.bind_eq_some_iff] at h
        obtain ⟨k1, h1, h⟩ := h
        split at h
        · rename_i c
          injection h with h
          subst h
          have hsz := Nat.eq_of_beq_eq_true hsz
          have : ∀ (z : List Value), vOf P t z = .agg z.toArray := fun z => by unfold vOf; rw [hu]
          have hi : ∃ i, P.info? e = some i := by
            cases hq : P.info? e with
            | some i => exact ⟨i, rfl⟩
            | none => simp [Program.cellsOf, hq] at hsz
          obtain ⟨i, hi⟩ := hi
          rw [this, this, run_equalIn_array w D xs.toArray ys.toArray hu hi, List.range_eq_range']
          exact items_eq w h1 hsz (fun xs' ys' b' hb' => equalIn_ok d D (by omega) e [c] h1 w xs' ys' b' hb') n 0 b (by simpa using hb)
        · cases h
    · simp at h

end
end Go.Proofs.YtchohkelpjfpcaaDoor.AX

/- The other operations that turn no memory. No conditions. -/
namespace Go.Proofs.YtchohkelpjfpcaaDoor.AX
open Go Go.RowKit

section
variable {U : Uni} {P : Program} {tab : Tab} {w0 : World} {M : Own} {N : Nat} {s : St U} {a : Act} {w : World} {ρ : Nat → Value} {F : Nat → List Nat} {CR : FuncId → List (DV U) → DV U → List (DV U) → Prop}

/-- Where c says so, a part of 'c || x' or 'c && x' is there. -/
def PickHold (s : St U) (a : Act) (dst : Nat → Option Nat) (tags : List (Nat × Bool)) : Prop :=
  ∀ i t g v tc or b, s.slot i = .when t g v → pickOk dst tags t tc or = true → a.tmps.getD tc undef = .bool b → b = !or → g = true

theorem pickR_ok {dst : Nat → Option Nat} {tags : List (Nat × Bool)} (hp : PickHold s a dst tags) {tc i : Nat} {c : SV} {x : SV} (hx : s.slot i = x) {or : Bool} {y : Out U} {e : Eff U} (h : (pickR (U := U) dst tags tc c x or).run s = some y) (hr : Resolves CR y e)
    (hc : Mat w ρ s.chunk c (a.tmps.getD tc undef)) {v : Value} (hm : Mat w ρ s.chunk x v) : ∃ cb z, a.tmps.getD tc undef = .bool cb ∧ e = ⟨.lit (.bool z), []⟩ ∧ (if or = true then (if cb = true then Value.bool true else v) else (if cb = true then v else Value.bool false)) = .bool z := by
  unfold pickR at h
  split at h
  · rename_i cb q
    have := okE_inv h hr
    rw [mat_lit] at hc hm
    subst this
    refine ⟨cb, _, hc, rfl, ?_⟩
    subst hm
    cases or <;> cases cb <;> simp
  · rename_i cb t g q
    rw [mat_lit] at hc
    cases hk : pickOk dst tags t tc or with
    | false => rw [hk] at h; simp [Rd.run] at h
    | true =>
      rw [hk] at h
      have := okE_inv h hr
      subst this
      refine ⟨cb, _, hc, rfl, ?_⟩
      simp only [Mat] at hm
      have hpp := hp i t g _ tc or cb hx hk hc
      cases or <;> cases cb <;> simp at hpp ⊢
      · exact hm.1 hpp
      · exact hm.1 hpp
  · simp [Rd.run] at h

theorem pure_pick (hS : Sat w0 M N s.slot s.chunk ρ F a w) {tags : List (Nat × Bool)} (hg : TagsHold s tags) {dst : Nat → Option Nat} (hp : PickHold s a dst tags) {o : Oper} {c x y : Operand} (ho : o.op = .pick c x y) {sig : Sig} {z : Out U} {e : Eff U}
    (h : (aop tab sig dst tags o).run s = some z) (hr : Resolves CR z e) : Pure P s a w ρ o e := by
  simp only [aop, ho, pickA] at h
  split at h <;> try (simp [Rd.run] at h; done)
  · simp only [Rd.run] at h
    have hq := Rd.run_bind h; clear h; obtain ⟨c', h1, h⟩ := hq
    have hc := strip_ok hg (Rd.run_of h1) (hS.slots _)
    simp only [Rd.run] at h
    obtain ⟨cb, zz, g1, rfl, g3⟩ := pickR_ok hp rfl h hr hc (hS.slots _)
    refine ⟨_, .bool zz, rfl, ?_, by simp [Mat]⟩
    rw [← g3]
    simp only [execOp, ho, Act.eval, g1, asBool, Sem.run_bind, Sem.run_pure, Result.andThen_ok, if_true]
  · simp only [Rd.run] at h
    have hq := Rd.run_bind h; clear h; obtain ⟨c', h1, h⟩ := hq
    have hc := strip_ok hg (Rd.run_of h1) (hS.slots _)
    simp only [Rd.run] at h
    obtain ⟨cb, zz, g1, rfl, g3⟩ := pickR_ok hp rfl h hr hc (hS.slots _)
    refine ⟨_, .bool zz, rfl, ?_, by simp [Mat]⟩
    rw [← g3]
    simp only [execOp, ho, Act.eval, g1, asBool, Sem.run_bind, Sem.run_pure, Result.andThen_ok]
    simp

theorem pure_move (hS : Sat w0 M N s.slot s.chunk ρ F a w) {tags : List (Nat × Bool)} (hg : TagsHold s tags) {dst : Nat → Option Nat} {o : Oper} {x : Operand} (ho : o.op = .move x ∨ o.op = .assign x) {sig : Sig} {z : Out U} {e : Eff U}
    (h : (aop tab sig dst tags o).run s = some z) (hr : Resolves CR z e) : Pure P s a w ρ o e := by
  rcases ho with ho | ho <;>
  · simp only [aop, ho] at h
    have hq := Rd.run_bind h; clear h; obtain ⟨v, h1, h⟩ := hq
    have := okE_inv h hr
    subst this
    exact ⟨_, _, rfl, by simp only [execOp, ho]; rfl, opd_ok hS hg h1⟩

theorem run_eqGuard_lit {op : BinOp} {t : TypeId} {x y : Operand} {v u : Value} (hv : ∀ c, v ≠ .agg c) (hn : v ≠ .nilIface) : (eqGuard op t x y v u).run P w = .ok () w := by
  cases v <;> first
    | (exact absurd rfl hn)
    | (exact absurd rfl (hv _))
    | (cases op <;> rfl)

theorem eq1_ok {c : CK} {x y : SV} {v u : Value} {b : Bool} (h : eq1 c x y = some b) (m1 : Mat w ρ s.chunk x v) (m2 : Mat w ρ s.chunk y u) : ckEq c v u = some b := by
  unfold eq1 at h
  split at h
  · rw [mat_lit] at m1 m2; subst m1 m2; exact h
  · rw [mat_lit] at m1 m2; subst m1 m2; exact h
  · rw [mat_lit] at m1 m2; subst m1 m2; exact h
  · simp at h

theorem eqCells_ok : ∀ {cs : List CK} {xs ys : List SV} {vs us : List Value} {b : Bool}, eqCells cs xs ys = some b → MatL w ρ s.chunk xs vs → MatL w ρ s.chunk ys us → cksEq cs vs us = some b
  | [], [], [], vs, us, b, h, m1, m2 => by
    simp only [MatL] at m1 m2; subst m1 m2
    simpa [eqCells, cksEq] using h
  | [c], [x], [y], vs, us, b, h, m1, m2 => by
    simp only [MatL] at m1 m2
    obtain ⟨v, r, rfl, m1, rfl⟩ := m1
    obtain ⟨u, r, rfl, m2, rfl⟩ := m2
    simp only [eqCells] at h
    simp [cksEq, eq1_ok h m1 m2]
  | c :: c2 :: cs, x :: xs, y :: ys, vs, us, b, h, m1, m2 => by
    simp only [MatL] at m1 m2
    obtain ⟨v, r, rfl, m1, m3⟩ := m1
    obtain ⟨u, r', rfl, m2, m4⟩ := m2
    have h' : ((eq1 c x y).bind fun b => (eqCells (c2 :: cs) xs ys).bind fun r => some (b && r)) = some b := by
      cases xs <;> cases ys <;> exact h
    simp only [Option.bind_eq_some_iff, Option.some.injEq] at h'
    obtain ⟨b1, h1, b2, h2, rfl⟩ := h'
    have e1 := eq1_ok h1 m1 m2
    have e2 := eqCells_ok h2 m3 m4
    unfold cksEq
    rw [e1, e2]; rfl
  | [c], [], ys, _, _, _, h, _, _ => by cases ys <;> simp [eqCells] at h
  | [c], [_], [], _, _, _, h, _, _ => by simp [eqCells] at h
  | [c], _ :: _ :: _, [], _, _, _, h, _, _ => by simp [eqCells] at h
  | [c], _ :: _ :: _, _ :: _, _, _, _, h, _, _ => by simp [eqCells] at h
  | [c], [_], _ :: _ :: _, _, _, _, h, _, _ => by simp [eqCells] at h
  | c :: _ :: _, [], ys, _, _, _, h, _, _ => by cases ys <;> simp [eqCells] at h
  | c :: _ :: _, _ :: _, [], _, _, _, h, _, _ => by simp [eqCells] at h
  | [], _ :: _, ys, _, _, _, h, _, _ => by cases ys <;> simp [eqCells] at h
  | [], [], _ :: _, _, _, _, h, _, _ => by simp [eqCells] at h

theorem vOf_agg {t : TypeId} (h : ∃ fs, P.underlying t = some (.struct fs)) {vs : List Value} : vOf P t vs = .agg vs.toArray := by
  obtain ⟨fs, h⟩ := h
  unfold vOf; rw [h]

theorem run_equalIn_nil {t et : TypeId} (ht : P.underlying t = some (.slice et)) (d : Nat) (A : Option Addr) (n c : Nat) : (Op.equalIn (d + 1) t (.slice A n c) (.slice none 0 0)).run P w = .ok A.isNone w := by
  cases A <;> simp [Op.equalIn, run_underlying ht]
theorem run_equal_nil {t et : TypeId} (ht : P.underlying t = some (.slice et)) (A : Option Addr) (n c : Nat) : (Op.equal t (.slice A n c) (.slice none 0 0)).run P w = .ok A.isNone w := run_equalIn_nil ht 9999 A n c

/-- A slice beside nil. -/
theorem nilCmp_ok (hT : TabOk P U tab) (hu : UniOk U) (hS : Sat w0 M N s.slot s.chunk ρ F a w) {t : TypeId} {k : Nat} (hty : tab.ty t = .slice k) {eq : Bool} {x : SV} {v : Value} {z : Out U} {e : Eff U} (h : (nilCmp k eq x).run s = some z) (hr : Resolves CR z e) (hm : Mat w ρ s.chunk x v) :
    ∃ A n c, v = .slice A n c ∧ e = ⟨.lit (.bool (if eq then A.isNone else !A.isNone)), []⟩ := by
  obtain ⟨hun, inf, zv, hin, hz, hisz, hzs, hpos, hby, _⟩ := hT.slice t k hty
  unfold nilCmp at h
  split at h
  · have := okE_inv h hr
    subst this
    rw [mat_lit] at hm; subst hm
    exact ⟨none, 0, 0, rfl, by cases eq <;> rfl⟩
  · rename_i id ver p
    have hq := Rd.run_bind h; clear h; obtain ⟨n, h1, h⟩ := hq
    obtain ⟨hb, rfl⟩ := okN_inv h hr
    simp only [lenSV] at h1
    have hq := Rd.run_bind h1; clear h1; obtain ⟨r, h2, h1⟩ := hq
    obtain ⟨own, d, G, hrep, _⟩ := slc_rep hu hS h2 hm
    obtain ⟨A, cap, rfl, _, _⟩ := hrep.row_slice
    cases hk : Nat.beq r.1 k with
    | false => rw [hk] at h1; simp [Rd.run] at h1
    | true =>
      rw [hk] at h1
      simp [Rd.run] at h1
      subst h1
      have hk' := Nat.eq_of_beq_eq_true hk
      have hl : 0 < r.2.length := by simpa using hb
      cases d with
      | zero => exact hrep.elim
      | succ d =>
        obtain ⟨cells, B, G', hrow, _⟩ := hrep
        have hcl := hrow.len
        have hc : ∃ u, cells[0]? = some u := by
          have : 0 < cells.length := by rw [hcl]; have hsz : U.sz r.1 = U.sz k := congrArg U.sz hk'; exact Nat.mul_pos hl (by rw [hsz]; exact hpos)
          exact ⟨cells[0], by simp [this]⟩
        obtain ⟨u, hc⟩ := hc
        obtain ⟨a', cap', e1, _⟩ := hrow.cell hc
        injection e1 with e1 _ _
        subst e1
        exact ⟨_, _, _, rfl, by cases eq <;> rfl⟩
  · simp [Rd.run] at h

theorem pure_binOp (hT : TabOk P U tab) (hu : UniOk U) (hS : Sat w0 M N s.slot s.chunk ρ F a w) {tags : List (Nat × Bool)} (hg : TagsHold s tags) {dst : Nat → Option Nat} {o : Oper} {op : BinOp} {t t' : TypeId} {x y : Operand} (ho : o.op = .binOp op t x y t') {sig : Sig} {z : Out U} {e : Eff U}
    (h : (aop tab sig dst tags o).run s = some z) (hr : Resolves CR z e) : Pure P s a w ρ o e := by
  simp only [aop, ho] at h
  have hq := Rd.run_bind h; clear h; obtain ⟨vx, h1, h⟩ := hq
  have hq := Rd.run_bind h; clear h; obtain ⟨vy, h2, h⟩ := hq
  have m1 := opd_ok hS hg h1
  have m2 := opd_ok hS hg h2
  split at h
  · rw [mat_lit] at m2
    split at h
    · rename_i k hty
      obtain ⟨A, n, c, hv, rfl⟩ := nilCmp_ok hT hu hS hty h hr m1
      refine ⟨_, .bool A.isNone, rfl, ?_, by rw [mat_lit]; rfl⟩
      simp only [execOp, ho, hv, m2, Sem.run_bind, run_eqGuard_lit (v := .slice A n c) (fun c => by simp) (by simp), Result.andThen_ok, binOp, run_equal_nil (hT.slice _ _ hty).1, Sem.run_pure]
    · rename_i k hty
      obtain ⟨A, n, c, hv, rfl⟩ := nilCmp_ok hT hu hS hty h hr m1
      refine ⟨_, .bool (!A.isNone), rfl, ?_, by rw [mat_lit]; rfl⟩
      simp only [execOp, ho, hv, m2, Sem.run_bind, run_eqGuard_lit (v := .slice A n c) (fun c => by simp) (by simp), Result.andThen_ok, binOp, run_equal_nil (hT.slice _ _ hty).1, Sem.run_pure]
    · simp [Rd.run] at h
  rename_i hne_
  clear hne_
  have hq := Rd.run_bind h; clear h; obtain ⟨r, h3, h⟩ := hq
  replace h3 := Rd.run_of h3
  simp [Rd.run] at h; subst h
  obtain ⟨hb, hr⟩ := needO_inv hr
  cases hr
  obtain ⟨nb, sv⟩ := r
  unfold binV at h3
  split at h3
  · rename_i xs ys
    simp only [Option.bind_eq_some_iff] at h3
    obtain ⟨cs, hc, b, he, h3⟩ := h3
    obtain ⟨hc1, hc2, hc3⟩ := hT.cmp t cs hc
    simp only [Mat] at m1 m2
    obtain ⟨vs, v1, m1⟩ := m1
    obtain ⟨us, v2, m2⟩ := m2
    have hck := eqCells_ok he m1 m2
    have heq : (Op.equal t (.agg vs.toArray) (.agg us.toArray)).run P w = .ok b w := by
      have := equalIn_ok 20 Op.maxDepth (by decide) t cs hc1 w vs us b hck
      rw [vOf_agg hc3, vOf_agg hc3] at this
      exact this
    have hgd : (eqGuard op t x y (.agg vs.toArray) (.agg us.toArray)).run P w = .ok () w := run_eqGuard_agg w op t x y _ _ hc2
    split at h3
    · simp at h3; obtain ⟨rfl, rfl⟩ := h3
      refine ⟨_, .bool b, rfl, ?_, by rw [mat_lit]⟩
      simp only [execOp, ho, v1, v2, Sem.run_bind, hgd, Result.andThen_ok, binOp, heq, Sem.run_pure]
    · simp at h3; obtain ⟨rfl, rfl⟩ := h3
      refine ⟨_, .bool (!b), rfl, ?_, by rw [mat_lit]⟩
      simp only [execOp, ho, v1, v2, Sem.run_bind, hgd, Result.andThen_ok, binOp, heq, Sem.run_pure]
    · simp at h3
  · rename_i k p k' q
    rw [mat_lit] at m1 m2
    cases hsh : shiftB op k p q with
    | some r =>
      rw [hsh] at h3
      injection h3 with h3
      subst h3
      obtain ⟨v, g1, g2⟩ := shiftB_ok (P := P) (w := w) (t := t) (k' := k') hsh hb
      refine ⟨_, v, rfl, ?_, by rw [show sv = .lit v from g2, mat_lit]⟩
      simp only [execOp, ho, m1, m2, Sem.run_bind, run_eqGuard_lit (v := .int k p) (fun c => by simp) (by simp), Result.andThen_ok, g1, Sem.run_pure]
    | none =>
    rw [hsh] at h3
    dsimp only at h3
    cases hk : kindEq k k' with
    | false => rw [hk] at h3; simp at h3
    | true =>
      rw [hk] at h3
      have := kindEq_eq hk
      subst this
      obtain ⟨v, g1, g2⟩ := intBin_ok (P := P) (w := w) (t := t) h3 hb
      refine ⟨_, v, rfl, ?_, by rw [show sv = .lit v from g2, mat_lit]⟩
      simp only [execOp, ho, m1, m2, Sem.run_bind, run_eqGuard_lit (v := .int k p) (fun c => by simp) (by simp), Result.andThen_ok, g1, Sem.run_pure]
  · rename_i p q
    rw [mat_lit] at m1 m2
    obtain ⟨v, g1, g2⟩ := strBin_ok (P := P) (w := w) (t := t) h3 hb
    refine ⟨_, v, rfl, ?_, by rw [show sv = .lit v from g2, mat_lit]⟩
    simp only [execOp, ho, m1, m2, Sem.run_bind, run_eqGuard_lit (v := .string p) (fun c => by simp) (by simp), Result.andThen_ok, g1, Sem.run_pure]
  · rename_i p q
    rw [mat_lit] at m1 m2
    split at h3
    · rename_i hty
      simp at h3; obtain ⟨rfl, rfl⟩ := h3
      refine ⟨_, .bool (p == q), rfl, ?_, by rw [mat_lit]⟩
      simp only [execOp, ho, m1, m2, Sem.run_bind, run_eqGuard_lit (v := .bool p) (fun c => by simp) (by simp), Result.andThen_ok, binOp, run_equal_bool w t p q (hT.bool t hty), Sem.run_pure]
    · rename_i hty
      simp at h3; obtain ⟨rfl, rfl⟩ := h3
      refine ⟨_, .bool (!(p == q)), rfl, ?_, by rw [mat_lit]⟩
      simp only [execOp, ho, m1, m2, Sem.run_bind, run_eqGuard_lit (v := .bool p) (fun c => by simp) (by simp), Result.andThen_ok, binOp, run_equal_bool w t p q (hT.bool t hty), Sem.run_pure]
    · simp at h3
  · simp at h3

theorem pure_unOp (hS : Sat w0 M N s.slot s.chunk ρ F a w) {tags : List (Nat × Bool)} (hg : TagsHold s tags) {dst : Nat → Option Nat} {o : Oper} {op : UnOp} {t : TypeId} {x : Operand} (ho : o.op = .unOp op t x) {sig : Sig} {z : Out U} {e : Eff U}
    (h : (aop tab sig dst tags o).run s = some z) (hr : Resolves CR z e) : Pure P s a w ρ o e := by
  simp only [aop, ho] at h
  have hq := Rd.run_bind h; clear h; obtain ⟨vx, h1, h⟩ := hq
  have hq := Rd.run_bind h; clear h; obtain ⟨r, h3, h⟩ := hq
  replace h3 := Rd.run_of h3
  have := okE_inv h hr
  subst this
  have m1 := opd_ok hS hg h1
  unfold unV at h3
  split at h3
  · rw [mat_lit] at m1
    injection h3 with h3; subst h3
    refine ⟨_, _, rfl, ?_, mat_lit.2 rfl⟩
    simp only [execOp, ho, m1, Op.unary, Op.intArith, Sem.run_bind, Sem.run_pure, Result.andThen_ok]
  · rw [mat_lit] at m1
    injection h3 with h3; subst h3
    refine ⟨_, _, rfl, ?_, mat_lit.2 rfl⟩
    simp only [execOp, ho, m1, Op.unary, Sem.run_bind, Sem.run_pure, Result.andThen_ok]
  · simp at h3

theorem pure_extract (hS : Sat w0 M N s.slot s.chunk ρ F a w) {tags : List (Nat × Bool)} (hg : TagsHold s tags) {dst : Nat → Option Nat} {o : Oper} {x : Operand} {i : Nat} (ho : o.op = .extract x i) {sig : Sig} {z : Out U} {e : Eff U}
    (h : (aop tab sig dst tags o).run s = some z) (hr : Resolves CR z e) : Pure P s a w ρ o e := by
  simp only [aop, ho] at h
  have hq := Rd.run_bind h; clear h; obtain ⟨vx, h1, h⟩ := hq
  have m1 := opd_ok hS hg h1
  split at h
  · have hq := Rd.run_bind h; clear h; obtain ⟨r, h3, h⟩ := hq
    replace h3 := Rd.run_of h3
    have := okE_inv h hr
    subst this
    simp only [Mat] at m1
    obtain ⟨vs, e1, hM⟩ := m1
    obtain ⟨u, g1, g2⟩ := hM.get h3
    refine ⟨_, u, rfl, ?_, g2⟩
    have : vs.toArray[i]? = some u := by simpa using g1
    simp only [execOp, ho, e1, Instr.extract, this, Sem.run_bind, Sem.run_pure, Result.andThen_ok]
  · simp [Rd.run] at h

theorem pure_index (hT : TabOk P U tab) (hS : Sat w0 M N s.slot s.chunk ρ F a w) {tags : List (Nat × Bool)} (hg : TagsHold s tags) {dst : Nat → Option Nat} {o : Oper} {t : TypeId} {x y : Operand} (ho : o.op = .index t x y) {sig : Sig} {z : Out U} {e : Eff U}
    (h : (aop tab sig dst tags o).run s = some z) (hr : Resolves CR z e) : Pure P s a w ρ o e := by
  simp only [aop, ho] at h
  split at h
  · rename_i hty
    have hq := Rd.run_bind h; clear h; obtain ⟨vx, h1, h⟩ := hq
    have m1 := opd_ok hS hg h1
    have hq := Rd.run_bind h; clear h; obtain ⟨vy, h2, h⟩ := hq
    have m2 := opd_ok hS hg h2
    split at h
    · rename_i str k n
      obtain ⟨hb, rfl⟩ := okN_inv h hr
      rw [mat_lit] at m1 m2
      simp only [Bool.and_eq_true, decide_eq_true_eq] at hb
      refine ⟨_, _, rfl, ?_, mat_lit.2 rfl⟩
      simp only [execOp, ho, m1, m2, Sem.run_bind, run_index_string w t str k n (hT.str t hty), dif_pos hb, Result.andThen_ok, Sem.run_pure]
      congr 3
      have h2 : n.toNat < str.data.size := by have : str.data.size = str.size := rfl; omega
      simp only [btAt, Array.getElem?_eq_getElem h2, Option.getD_some]
      rfl
    · simp [Rd.run] at h
  · simp [Rd.run] at h
end
end Go.Proofs.YtchohkelpjfpcaaDoor.AX

/- Slices of texts and rows, fields, lengths, structs. No conditions. -/
namespace Go.Proofs.YtchohkelpjfpcaaDoor.AX
open Go Go.RowKit

section
variable {U : Uni} {P : Program} {tab : Tab} {w0 : World} {M : Own} {N : Nat} {s : St U} {a : Act} {w : World} {ρ : Nat → Value} {F : Nat → List Nat} {CR : FuncId → List (DV U) → DV U → List (DV U) → Prop}

theorem numO_ok (hS : Sat w0 M N s.slot s.chunk ρ F a w) {tags : List (Nat × Bool)} (hg : TagsHold s tags) {x : Option Operand} {n : Option Int} (h : (numO (U := U) tags x).run s = some n) :
    (x = none ∧ n = none) ∨ ∃ y k i, x = some y ∧ n = some i ∧ a.eval y = .int k i := by
  cases x with
  | none => simp [numO, Rd.run] at h; exact .inl ⟨rfl, h.symm⟩
  | some y =>
    simp only [numO] at h
    have hq := Rd.run_bind h; clear h; obtain ⟨v, h1, h⟩ := hq
    have hq := Rd.run_bind h; clear h; obtain ⟨i, h2, h⟩ := hq
    replace h2 := Rd.run_of h2
    simp [Rd.run] at h; subst h
    have m := opd_ok hS hg h1
    unfold numV at h2
    split at h2
    · injection h2 with h2; subst h2
      rw [mat_lit] at m
      exact .inr ⟨y, _, _, rfl, rfl, m⟩
    · simp at h2

theorem run_bounds {sl : Bool} {len cap : Nat} {lo hi : Option Value} {l h : Option Int} (hl : (lo = none ∧ l = none) ∨ ∃ k i, lo = some (.int k i) ∧ l = some i) (hh : (hi = none ∧ h = none) ∨ ∃ k i, hi = some (.int k i) ∧ h = some i)
    (h0 : 0 ≤ l.getD 0) (h1 : l.getD 0 ≤ h.getD len) (h2 : h.getD len ≤ cap) :
    (Instr.sliceBounds sl len cap lo hi none).run P w = .ok ((l.getD 0).toNat, (h.getD len).toNat, cap) w := by
  rcases hl with ⟨rfl, rfl⟩ | ⟨k, i, rfl, rfl⟩ <;> rcases hh with ⟨rfl, rfl⟩ | ⟨k', j, rfl, rfl⟩
  · simp at h1 h2; simp [Instr.sliceBounds]
  · simp at h1 h2; simp [Instr.sliceBounds, run_sliceBound_if, h1, h2]
  · simp at h0 h1 h2; simp [Instr.sliceBounds, run_sliceBound_if, h0, h1]
  · simp at h0 h1 h2
    have e : (j.toNat : Int) = j := by omega
    simp [Instr.sliceBounds, run_sliceBound_if, h0, h1, h2, show 0 ≤ j by omega]
    intro hx; omega

theorem pure_slice (hT : TabOk P U tab) (hu : UniOk U) (hS : Sat w0 M N s.slot s.chunk ρ F a w) {tags : List (Nat × Bool)} (hg : TagsHold s tags) {dst : Nat → Option Nat} {o : Oper} {t : TypeId} {x : Operand} {lo hi : Option Operand} (ho : o.op = .slice t x lo hi none) {sig : Sig} {z : Out U} {e : Eff U}
    (h : (aop tab sig dst tags o).run s = some z) (hr : Resolves CR z e) : Pure P s a w ρ o e := by
  simp only [aop, ho] at h
  have hq := Rd.run_bind h; clear h; obtain ⟨v, h1, h⟩ := hq
  have hq := Rd.run_bind h; clear h; obtain ⟨l, h2, h⟩ := hq
  have hq := Rd.run_bind h; clear h; obtain ⟨hh, h3, h⟩ := hq
  have m := opd_ok hS hg h1
  have ml : (lo.map a.eval = none ∧ l = none) ∨ ∃ k i, lo.map a.eval = some (.int k i) ∧ l = some i := by
    rcases numO_ok hS hg h2 with ⟨rfl, rfl⟩ | ⟨y, k, i, rfl, rfl, e⟩
    · exact .inl ⟨rfl, rfl⟩
    · exact .inr ⟨k, i, by simp [e], rfl⟩
  have mh : (hi.map a.eval = none ∧ hh = none) ∨ ∃ k i, hi.map a.eval = some (.int k i) ∧ hh = some i := by
    rcases numO_ok hS hg h3 with ⟨rfl, rfl⟩ | ⟨y, k, i, rfl, rfl, e⟩
    · exact .inl ⟨rfl, rfl⟩
    · exact .inr ⟨k, i, by simp [e], rfl⟩
  split at h
  · rename_i hty
    split at h
    · rename_i str hs
      obtain ⟨hb, rfl⟩ := okN_inv h hr
      unfold isStrV at hs
      split at hs
      · injection hs with hs; subst hs
        rw [mat_lit] at m
        simp only [Bool.and_eq_true, decide_eq_true_eq] at hb
        obtain ⟨⟨b0, b1⟩, b2⟩ := hb
        refine ⟨_, _, rfl, ?_, mat_lit.2 rfl⟩
        have hun := hT.str t hty
        simp only [execOp, ho, m, Option.map_none, Sem.run_bind, run_sliceAt_string w t _ _ _ _ hun, Instr.slice, run_underlying hun w, Result.andThen_ok, Option.isSome_none, Bool.false_eq_true, if_false, run_bounds ml mh b0 b1 b2, Sem.run_pure]
      · simp at hs
    · simp [Rd.run] at h
  · rename_i k hty
    have hq := Rd.run_bind h; clear h; obtain ⟨n, h4, h⟩ := hq
    have hq := Rd.run_bind h; clear h; obtain ⟨r, h5, h⟩ := hq
    replace h5 := Rd.run_of h5
    obtain ⟨hb, rfl⟩ := okN_inv h hr
    simp only [Bool.and_eq_true, decide_eq_true_eq] at hb
    obtain ⟨⟨b0, b1⟩, b2⟩ := hb
    obtain ⟨hun, inf, zz, hin, _, hisz, _, hpos, _, _⟩ := hT.slice t k hty
    obtain ⟨A, mm, cap, e1, rfl, hc⟩ := lenSV_ok hu hS h4 m
    have hrun : (execOp a.eval o).run P w = .ok (.value (.slice (if cap = (l.getD 0).toNat then A else A.map (·.add ((l.getD 0).toNat * U.sz k))) ((hh.getD mm).toNat - (l.getD 0).toNat) (cap - (l.getD 0).toNat))) w := by
      have hdir : ∀ lo' hi' : Option Value, (Instr.sliceAt t (.slice A mm cap) lo' hi' none).run P w = (Instr.slice t (.slice A mm cap) lo' hi' none).run P w := fun lo' hi' => by simp [Instr.sliceAt, run_underlying hun w]
      have hsl : (Instr.slice t (.slice A mm cap) (lo.map a.eval) (hi.map a.eval) none).run P w = .ok (.slice (if cap = (l.getD 0).toNat then A else A.map (·.add ((l.getD 0).toNat * U.sz k))) ((hh.getD mm).toNat - (l.getD 0).toNat) (cap - (l.getD 0).toNat)) w := by
        simp [Instr.slice, run_underlying hun w, run_bounds (P := P) (w := w) (sl := true) ml mh b0 b1 (show hh.getD mm ≤ cap by omega), sizeOf, typeInfo, hin, hisz]
      simp only [execOp, ho, e1, Sem.run_bind, Option.map_none, hdir, hsl, Result.andThen_ok, Sem.run_pure]
    refine ⟨r, _, rfl, hrun, ?_⟩
    unfold winV at h5
    split at h5
    · rename_i id ver p
      injection h5 with h5; subst h5
      simp only [lenSV] at h4
      have hq := Rd.run_bind h4; clear h4; obtain ⟨rr, h6, h4⟩ := hq
      obtain ⟨own', cv, k', ll, ec, hf, hve⟩ := getRow_inv h6
      cases hk : Nat.beq rr.1 k with
      | false => rw [hk] at h4; simp [Rd.run] at h4
      | true =>
        rw [hk] at h4; simp [Rd.run] at h4
        replace hk := Nat.eq_of_beq_eq_true hk
        simp only [Mat, ec, MatS] at m
        obtain ⟨_, m1, m2, m3⟩ := m
        simp only [Mat, ec, MatW]
        refine ⟨⟨_, _, _, rfl⟩, m2, fun hp => ⟨rr, a.eval x, A, cap, ⟨?_, hf⟩, ?_, b0, by omega, by omega, _, by congr 1; omega, fun hlt => ?_⟩⟩
        · rcases hve with hp | hp
          · subst hp; exact m1 rfl
          · exact m3 hp
        · rw [e1]; congr 1; omega
        · rw [if_neg (by omega), hk]
    · rename_i id ver p o' len'
      injection h5 with h5; subst h5
      simp only [lenSV] at h4
      have hq := Rd.run_bind h4; clear h4; obtain ⟨rr, h6, h4⟩ := hq
      obtain ⟨own', cv, k', ll, ec, hf, hve⟩ := getRow_inv h6
      cases hk : Nat.beq rr.1 k with
      | false => rw [hk] at h4; simp [Rd.run] at h4
      | true =>
        rw [hk] at h4; simp [Rd.run] at h4
        replace hk := Nat.eq_of_beq_eq_true hk
        simp only [Mat, ec, MatW] at m
        obtain ⟨_, m2, m3⟩ := m
        obtain ⟨r1, v1, A1, cap1, hs, q1, q2, q3, q4, A', q5, q6⟩ := m3 hve
        rw [e1] at q5
        injection q5 with q5 q7 q8
        subst q5 q8
        have hs2 := hs.2
        rw [hf] at hs2; injection hs2 with hs2; subst hs2
        simp only [Mat, ec, MatW]
        refine ⟨⟨_, _, _, rfl⟩, m2, fun hp => ⟨rr, v1, A1, cap1, hs, q1, by omega, by omega, by omega, _, by congr 1 <;> omega, fun hlt => ?_⟩⟩
        have q9 := q6 (by omega)
        rw [if_neg (by omega), q9, Option.map_map]
        congr 1
        funext ad
        simp only [Function.comp, add_add, hk]
        congr 1
        rw [show (o' + l.getD 0).toNat = o'.toNat + (l.getD 0).toNat by omega, Nat.add_mul]
    · injection h5 with h5; subst h5
      simp only [lenSV, Rd.run] at h4
      injection h4 with h4
      rw [mat_lit] at m ⊢
      rw [m] at e1
      injection e1 with e2 e3 e4
      subst e2 e3 e4
      simp at b1 b2
      have l0 : l.getD 0 = 0 := by omega
      rw [l0]
      simp
      omega
    · simp at h5
  · simp [Rd.run] at h

theorem run_size {t : TypeId} {i : TypeInfo} (h : P.info? t = some i) : (sizeOf t).run P w = .ok i.size w := by simp [sizeOf, typeInfo, h]

theorem pure_field (hT : TabOk P U tab) (hS : Sat w0 M N s.slot s.chunk ρ F a w) {tags : List (Nat × Bool)} (hg : TagsHold s tags) {dst : Nat → Option Nat} {o : Oper} {t : TypeId} {x : Operand} {f : Nat} (ho : o.op = .field t x f) {sig : Sig} {z : Out U} {e : Eff U}
    (h : (aop tab sig dst tags o).run s = some z) (hr : Resolves CR z e) : Pure P s a w ρ o e := by
  simp only [aop, ho] at h
  split at h
  · rename_i fs hty
    have hq := Rd.run_bind h; clear h; obtain ⟨v, h1, h⟩ := hq
    have m := opd_ok hS hg h1
    obtain ⟨fields, hun, hsz, hfs⟩ := hT.agg t fs hty
    split at h
    · rename_i cs off n hf
      have hq := Rd.run_bind h; clear h; obtain ⟨mm, h2, h⟩ := hq
      replace h2 := Rd.run_of h2
      have := okE_inv h hr
      subst this
      obtain ⟨fd, inf, d, hfd, hoff, hin, hisz, hn, hd, hag⟩ := hfs f off n true hf
      simp only [Mat] at m
      obtain ⟨vs, e1, hM⟩ := m
      obtain ⟨hl, rfl⟩ := cut_inv h2
      refine ⟨_, .agg ((vs.drop off).take n).toArray, rfl, ?_, by simp only [Mat]; exact ⟨_, rfl, (hM.drop).take⟩⟩
      have : vs.toArray.extract off (off + n) = ((vs.drop off).take n).toArray := by
        apply Array.ext'
        simp [Array.toList_extract, List.extract]
      simp only [execOp, ho, e1, Instr.field, run_underlying hun w, hfd, asAgg, part, run_isAgg hd, hag, run_size hin, hisz, hoff, Sem.run_bind, Sem.run_pure, Result.andThen_ok, if_true, this]
    · rename_i cs off n hf
      have hq := Rd.run_bind h; clear h; obtain ⟨mm, h2, h⟩ := hq
      replace h2 := Rd.run_of h2
      have := okE_inv h hr
      subst this
      obtain ⟨fd, inf, d, hfd, hoff, hin, hisz, hn, hd, hag⟩ := hfs f off n false hf
      simp only [Mat] at m
      obtain ⟨vs, e1, hM⟩ := m
      obtain ⟨u, g1, g2⟩ := hM.get h2
      refine ⟨_, u, rfl, ?_, g2⟩
      have : vs.toArray[off]? = some u := by simpa using g1
      simp only [execOp, ho, e1, Instr.field, run_underlying hun w, hfd, asAgg, part, run_isAgg hd, hag, hoff, Sem.run_bind, Sem.run_pure, Result.andThen_ok, Bool.false_eq_true, if_false, this]
    · simp [Rd.run] at h
  · simp [Rd.run] at h
theorem minL_ok {k : IntKind} : ∀ {r : List SV} {x m : Int} {vs : List Value}, minL k x r = some m → MatL w ρ s.chunk r vs → (vs.foldlM Builtin.min2 (.int k x)).run P w = .ok (.int k m) w
  | [], x, m, vs, h, hm => by
    simp only [minL] at h; injection h with h; subst h
    simp only [MatL] at hm; subst hm; rfl
  | v :: r, x, m, vs, h, hm => by
    unfold minL at h
    split at h
    · rename_i e; simp at e
    · rename_i k' b r' e
      injection e with e1 e2; subst e1 e2
      simp only [MatL] at hm
      obtain ⟨u, us, rfl, g1, g2⟩ := hm
      rw [mat_lit] at g1; subst g1
      cases hk : kindEq k' k with
      | false => rw [hk] at h; simp at h
      | true =>
        rw [hk] at h
        have ih := minL_ok h g2
        simp only [List.foldlM_cons, Builtin.min2, Sem.run_bind, Sem.run_pure, Result.andThen_ok]
        exact ih
    · simp at h

theorem maxL_ok {k : IntKind} : ∀ {r : List SV} {x m : Int} {vs : List Value}, maxL k x r = some m → MatL w ρ s.chunk r vs → (vs.foldlM Builtin.max2 (.int k x)).run P w = .ok (.int k m) w
  | [], x, m, vs, h, hm => by
    simp only [maxL] at h; injection h with h; subst h
    simp only [MatL] at hm; subst hm; rfl
  | v :: r, x, m, vs, h, hm => by
    unfold maxL at h
    split at h
    · rename_i e; simp at e
    · rename_i k' b r' e
      injection e with e1 e2; subst e1 e2
      simp only [MatL] at hm
      obtain ⟨u, us, rfl, g1, g2⟩ := hm
      rw [mat_lit] at g1; subst g1
      cases hk : kindEq k' k with
      | false => rw [hk] at h; simp at h
      | true =>
        rw [hk] at h
        have ih := maxL_ok h g2
        simp only [List.foldlM_cons, Builtin.max2, Sem.run_bind, Sem.run_pure, Result.andThen_ok]
        exact ih
    · simp at h

theorem map_args (c : Call) : (c.args.map a.eval).toList = c.args.toList.map a.eval := by simp

theorem run_resolve_builtin {c : Call} {b : Builtin} (h : c.callee = .builtin b) (ty : TypeId) : (resolve a.eval c ty).run P w = .ok { target := .builtin b c.argTypes ty (c.args.map fun | .const _ => true | _ => false), args := c.args.map a.eval } w := by
  unfold resolve; rw [h]; rfl

theorem mEnts_size {k : Nat} : ∀ {es : List MapEntry} {l : List (U.El k)}, MEnts U k es l → es.length = l.length
  | [], [], _ => rfl
  | _ :: _, _ :: _, h => by simp [mEnts_size h.2]
  | [], _ :: _, h => h.elim
  | _ :: _, [], h => h.elim

theorem pure_builtin (hT : TabOk P U tab) (hu : UniOk U) (hS : Sat w0 M N s.slot s.chunk ρ F a w) {tags : List (Nat × Bool)} (hg : TagsHold s tags) {dst : Nat → Option Nat} {o : Oper} {c : Call} (ho : o.op = .call c) (hb : c.callee = .builtin .len ∨ c.callee = .builtin .min ∨ c.callee = .builtin .max) {sig : Sig} {z : Out U} {e : Eff U}
    (h : (aop tab sig dst tags o).run s = some z) (hr : Resolves CR z e) : Pure P s a w ρ o e := by
  simp only [aop, ho] at h
  have hq := Rd.run_bind h; clear h; obtain ⟨args, h1, h⟩ := hq
  have hM := opds_ok hS hg h1
  rcases hb with hb | hb | hb
  · rw [hb] at h
    dsimp only at h
    split at h
    · rename_i hty
      split at h <;> try (simp [Rd.run] at h; done)
      rename_i str
      have := okE_inv h hr
      subst this
      simp only [MatL] at hM
      obtain ⟨v, r, e1, g1, g2⟩ := hM
      subst g2
      rw [mat_lit] at g1; subst g1
      cases ht : c.argTypes[0]? with
      | none => rw [ht] at hty; simp at hty
      | some t =>
        rw [ht] at hty; simp at hty
        refine ⟨_, _, rfl, ?_, mat_lit.2 rfl⟩
        have ha : c.args.map a.eval = #[.string str] := by apply Array.ext'; rw [map_args, e1]
        simp only [execOp, ho, Sem.run_bind, run_resolve_builtin hb, Result.andThen_ok, invoke, builtin, Builtin.len_, ha, ht, run_underlying (hT.str t hty) w, Sem.run_pure]
        simp [run_underlying (hT.str t hty) w, goInt]
    · rename_i k hty
      split at h <;> try (simp [Rd.run] at h; done)
      rename_i sv
      have hq := Rd.run_bind h; clear h; obtain ⟨n, h2, h⟩ := hq
      have := okE_inv h hr
      subst this
      simp only [MatL] at hM
      obtain ⟨v, r, e1, g1, g2⟩ := hM
      subst g2
      obtain ⟨A, m, cap, rfl, rfl, hc⟩ := lenSV_ok hu hS h2 g1
      cases ht : c.argTypes[0]? with
      | none => rw [ht] at hty; simp at hty
      | some t =>
        rw [ht] at hty; simp at hty
        have hun := (hT.slice t k hty).1
        refine ⟨_, _, rfl, ?_, mat_lit.2 rfl⟩
        have ha : c.args.map a.eval = #[.slice A m cap] := by apply Array.ext'; rw [map_args, e1]
        simp only [execOp, ho, Sem.run_bind, run_resolve_builtin hb, Result.andThen_ok, invoke, builtin, Builtin.len_, ha, ht, run_underlying hun w, Sem.run_pure]
        simp [run_underlying hun w, goInt]
    · rename_i k hty
      split at h <;> try (simp [Rd.run] at h; done)
      rename_i id
      simp only [Rd.run] at h
      cases ec : s.chunk id with
      | mp k' l =>
        rw [ec] at h
        dsimp only at h
        cases hk : Nat.beq k k' with
        | false => rw [hk] at h; simp [Rd.run] at h
        | true =>
          rw [hk] at h
          simp only [cond_true] at h
          have := okE_inv h hr
          subst this
          simp only [MatL] at hM
          obtain ⟨v, r, e1, g1, g2⟩ := hM
          subst g2
          simp only [Mat, MatM, ec] at g1
          have hrep := hS.rep id
          rw [ec] at hrep
          obtain ⟨b, es, clock, r1, r2, r3, _⟩ := hrep
          rw [r1] at g1; subst g1
          have hlen := mEnts_size r3
          cases ht : c.argTypes[0]? with
          | none => rw [ht] at hty; simp at hty
          | some t =>
            rw [ht] at hty; simp at hty
            obtain ⟨kt, et, _, _, _, _, _, _, _, _, hun, _⟩ := hT.map t k hty
            refine ⟨_, _, rfl, ?_, mat_lit.2 rfl⟩
            have ha : c.args.map a.eval = #[.map (some b)] := by apply Array.ext'; rw [map_args, e1]
            have hg : (getObj b).run P w = .ok (.map es clock) w := by simp [getObj, Sem.run, r2]
            simp only [execOp, ho, Sem.run_bind, run_resolve_builtin hb, Result.andThen_ok, invoke, builtin, Builtin.len_, ha, ht, run_underlying hun w, Sem.run_pure]
            simp [run_underlying hun w, goInt, hg, hlen, ← Array.length_toList]
      | _ => rw [ec] at h; simp [Rd.run] at h
    · simp [Rd.run] at h
  · rw [hb] at h
    dsimp only at h
    split at h
    · rename_i k x r
      have hq := Rd.run_bind h; clear h; obtain ⟨m, h2, h⟩ := hq
      replace h2 := Rd.run_of h2
      have := okE_inv h hr
      subst this
      simp only [MatL] at hM
      obtain ⟨v, us, e1, g1, g2⟩ := hM
      rw [mat_lit] at g1; subst g1
      refine ⟨_, _, rfl, ?_, mat_lit.2 rfl⟩
      simp only [execOp, ho, Sem.run_bind, run_resolve_builtin hb, Result.andThen_ok, invoke, builtin, Builtin.min_, map_args, e1, minL_ok h2 g2, Sem.run_pure]
    · simp [Rd.run] at h
  · rw [hb] at h
    dsimp only at h
    split at h
    · rename_i k x r
      have hq := Rd.run_bind h; clear h; obtain ⟨m, h2, h⟩ := hq
      replace h2 := Rd.run_of h2
      have := okE_inv h hr
      subst this
      simp only [MatL] at hM
      obtain ⟨v, us, e1, g1, g2⟩ := hM
      rw [mat_lit] at g1; subst g1
      refine ⟨_, _, rfl, ?_, mat_lit.2 rfl⟩
      simp only [execOp, ho, Sem.run_bind, run_resolve_builtin hb, Result.andThen_ok, invoke, builtin, Builtin.max_, map_args, e1, maxL_ok h2 g2, Sem.run_pure]
    · simp [Rd.run] at h

end
end Go.Proofs.YtchohkelpjfpcaaDoor.AX

/- Structs out of parts. No conditions. -/
namespace Go.Proofs.YtchohkelpjfpcaaDoor.AX
open Go Go.RowKit

section
variable {U : Uni} {P : Program} {tab : Tab} {w0 : World} {M : Own} {N : Nat} {s : St U} {a : Act} {w : World} {ρ : Nat → Value} {F : Nat → List Nat} {CR : FuncId → List (DV U) → DV U → List (DV U) → Prop}

theorem mat_one {x : SV} {v : Value} (h : cellLike x = true) (hm : Mat w ρ s.chunk x v) : v.oneCell' = true := by
  cases x with
  | lit y => rw [mat_lit] at hm; subst hm; exact h
  | slc id ver p => simp only [Mat, MatS] at hm; obtain ⟨⟨A, n, c, rfl⟩, _⟩ := hm; rfl
  | win id ver p off len => simp only [Mat, MatW] at hm; obtain ⟨⟨A, n, c, rfl⟩, _⟩ := hm; rfl
  | ptr id ver p i c => simp only [Mat, MatP] at hm; obtain ⟨A, rfl, _⟩ := hm; rfl
  | fn f caps => simp only [Mat] at hm; obtain ⟨vs, rfl, _⟩ := hm; rfl
  | _ => simp [cellLike] at h

theorem mat_ones : ∀ {xs : List SV} {vs : List Value}, xs.all cellLike = true → MatL w ρ s.chunk xs vs → ∀ u ∈ vs, u.oneCell' = true
  | [], vs, _, h => by simp only [MatL] at h; subst h; simp
  | x :: xs, vs, hc, h => by
    simp only [MatL] at h; obtain ⟨v, r, rfl, h1, h2⟩ := h
    simp only [List.all_cons, Bool.and_eq_true] at hc
    intro u hu
    rcases List.mem_cons.1 hu with rfl | hu
    · exact mat_one hc.1 h1
    · exact mat_ones hc.2 h2 u hu

theorem one_cells {v : Value} (h : v.oneCell' = true) : v.cells = #[v] := by
  cases v <;> first | rfl | (simp [Value.oneCell'] at h)

/-- A value's cells. -/
theorem cells_ok {x : SV} {v : Value} (hm : Mat w ρ s.chunk x v) (hc : (cellsOf x).all cellLike = true) : MatL w ρ s.chunk (cellsOf x) v.cells.toList ∧ ∀ u ∈ v.cells.toList, u.oneCell' = true := by
  cases x with
  | agg cs =>
    simp only [Mat] at hm
    obtain ⟨vs, rfl, hM⟩ := hm
    exact ⟨hM, mat_ones hc hM⟩
  | _ =>
    simp only [cellsOf, List.all_cons, List.all_nil, Bool.and_true] at hc
    have h1 := mat_one hc hm
    rw [one_cells h1]
    simp only [cellsOf]
    exact ⟨by simp only [MatL]; exact ⟨v, [], rfl, hm, rfl⟩, by simpa using h1⟩

theorem setAt_len {α : Type} : ∀ {l : List α} {c : Nat} {ys r : List α}, setAt l c ys = some r → r.length = l.length ∧ c + ys.length ≤ l.length
  | [], 0, [], r, h => by simp [setAt] at h; subst h; simp
  | [], 0, _ :: _, r, h => by simp [setAt] at h
  | [], _ + 1, ys, r, h => by simp [setAt] at h
  | x :: l, 0, [], r, h => by simp [setAt] at h; subst h; simp
  | x :: l, 0, y :: ys, r, h => by
    simp only [setAt, Option.map_eq_some_iff] at h
    obtain ⟨q, h, rfl⟩ := h
    have := setAt_len h
    simp only [List.length_cons]; omega
  | x :: l, c + 1, ys, r, h => by
    simp only [setAt, Option.map_eq_some_iff] at h
    obtain ⟨q, h, rfl⟩ := h
    have := setAt_len h
    simp only [List.length_cons]; omega

/-- The same change of two lists that go together. -/
theorem setAt_mat : ∀ {cs : List SV} {vs : List Value} {c : Nat} {ys r : List SV} {us : List Value}, MatL w ρ s.chunk cs vs → setAt cs c ys = some r → MatL w ρ s.chunk ys us → ∃ q, setAt vs c us = some q ∧ MatL w ρ s.chunk r q
  | [], vs, 0, [], r, us, h, hs, hy => by
    simp only [MatL] at h hy; subst h hy; simp [setAt] at hs; subst hs; exact ⟨[], rfl, by simp [MatL]⟩
  | [], vs, 0, _ :: _, r, us, h, hs, hy => by simp [setAt] at hs
  | [], vs, _ + 1, ys, r, us, h, hs, hy => by simp [setAt] at hs
  | x :: cs, vs, 0, [], r, us, h, hs, hy => by
    simp only [MatL] at hy; subst hy; simp [setAt] at hs; subst hs; exact ⟨vs, by cases vs <;> rfl, h⟩
  | x :: cs, vs, 0, y :: ys, r, us, h, hs, hy => by
    simp only [MatL] at h hy
    obtain ⟨v, vr, rfl, h1, h2⟩ := h
    obtain ⟨u, ur, rfl, g1, g2⟩ := hy
    simp only [setAt, Option.map_eq_some_iff] at hs
    obtain ⟨q, hs, rfl⟩ := hs
    obtain ⟨q', e1, e2⟩ := setAt_mat h2 hs g2
    exact ⟨u :: q', by simp [setAt, e1], by simp only [MatL]; exact ⟨u, q', rfl, g1, e2⟩⟩
  | x :: cs, vs, c + 1, ys, r, us, h, hs, hy => by
    simp only [MatL] at h
    obtain ⟨v, vr, rfl, h1, h2⟩ := h
    simp only [setAt, Option.map_eq_some_iff] at hs
    obtain ⟨q, hs, rfl⟩ := hs
    obtain ⟨q', e1, e2⟩ := setAt_mat h2 hs hy
    exact ⟨v :: q', by simp [setAt, e1], by simp only [MatL]; exact ⟨v, q', rfl, h1, e2⟩⟩

theorem setAt_get {α : Type} : ∀ {l : List α} {c : Nat} {ys r : List α}, setAt l c ys = some r → ∀ j, r[j]? = if c ≤ j ∧ j < c + ys.length then ys[j - c]? else l[j]?
  | [], 0, [], r, h, j => by simp [setAt] at h; subst h; simp
  | [], 0, _ :: _, r, h, j => by simp [setAt] at h
  | [], _ + 1, ys, r, h, j => by simp [setAt] at h
  | x :: l, 0, [], r, h, j => by simp [setAt] at h; subst h; simp
  | x :: l, 0, y :: ys, r, h, j => by
    simp only [setAt, Option.map_eq_some_iff] at h
    obtain ⟨q, h, rfl⟩ := h
    have ih := setAt_get h
    cases j with
    | zero => simp
    | succ j =>
      have := ih j
      simp only [List.getElem?_cons_succ, this, List.length_cons]
      by_cases hj : j < ys.length
      · rw [if_pos (by omega), if_pos (by omega)]; simp
      · rw [if_neg (by omega), if_neg (by omega)]
  | x :: l, c + 1, ys, r, h, j => by
    simp only [setAt, Option.map_eq_some_iff] at h
    obtain ⟨q, h, rfl⟩ := h
    have ih := setAt_get h
    cases j with
    | zero => simp
    | succ j =>
      have := ih j
      simp only [List.getElem?_cons_succ, this]
      by_cases hj : c ≤ j ∧ j < c + ys.length
      · rw [if_pos hj, if_pos (by omega)]; congr 1; omega
      · rw [if_neg hj, if_neg (by omega)]

theorem fold_set (off : Nat) : ∀ (us : List Value) (j0 : Nat) (cells : Array Value), ∀ j, ((us.zipIdx j0).foldl (fun cs x => cs.setIfInBounds (off + x.2) x.1) cells)[j]? = if off + j0 ≤ j ∧ j < off + j0 + us.length ∧ j < cells.size then us[j - (off + j0)]? else cells[j]?
  | [], j0, cells, j => by
    simp only [List.zipIdx_nil, List.foldl_nil, List.length_nil, Nat.add_zero]
    rw [if_neg (by omega)]
  | u :: us, j0, cells, j => by
    simp only [List.zipIdx_cons, List.foldl_cons]
    rw [fold_set off us (j0 + 1)]
    simp only [List.length_cons, Array.size_setIfInBounds]
    by_cases h1 : off + (j0 + 1) ≤ j ∧ j < off + (j0 + 1) + us.length ∧ j < cells.size
    · rw [if_pos h1, if_pos (by omega)]
      rw [show j - (off + j0) = (j - (off + (j0 + 1))) + 1 by omega]; simp
    · rw [if_neg h1]
      rw [Array.getElem?_setIfInBounds]
      by_cases h2 : off + j0 = j
      · rw [if_pos h2]
        by_cases h3 : off + j0 < cells.size
        · rw [if_pos h3, if_pos (by omega)]; simp [h2]
        · rw [if_neg h3, if_neg (by omega)]; rw [Array.getElem?_eq_none (by omega)]
      · rw [if_neg h2, if_neg (by omega)]

theorem fold_setAt {off : Nat} {us : List Value} {cells : Array Value} {q : List Value} (h : setAt cells.toList off us = some q) : us.toArray.zipIdx.foldl (fun cs x => cs.setIfInBounds (off + x.2) x.1) cells = q.toArray := by
  apply Array.ext_getElem?
  intro j
  have hl := setAt_len h
  rw [← Array.foldl_toList]
  have e : us.toArray.zipIdx.toList = us.zipIdx 0 := by simp
  rw [e, fold_set off us 0]
  have hg := setAt_get h j
  simp only [List.getElem?_toArray]
  rw [hg]
  simp only [Array.length_toList] at hl
  by_cases h1 : off ≤ j ∧ j < off + us.length
  · rw [if_pos h1, if_pos (by omega)]; simp
  · rw [if_neg h1, if_neg (by omega)]; simp

theorem partsOf_ok (hS : Sat w0 M N s.slot s.chunk ρ F a w) {tags : List (Nat × Bool)} (hg : TagsHold s tags) : ∀ {ps : List (Nat × Operand)} {vs : List (Nat × SV)}, (partsOf (U := U) tags ps).run s = some vs →
    vs.map (·.1) = ps.map (·.1) ∧ MatL w ρ s.chunk (vs.map (·.2)) (ps.map fun x => a.eval x.2)
  | [], vs, h => by simp [partsOf, Rd.run] at h; subst h; simp [MatL]
  | (i, x) :: ps, vs, h => by
    simp only [partsOf] at h
    have hq := Rd.run_bind h; clear h; obtain ⟨v, h1, h⟩ := hq
    have hq := Rd.run_bind h; clear h; obtain ⟨r, h2, h⟩ := hq
    simp [Rd.run] at h; subst h
    obtain ⟨e1, e2⟩ := partsOf_ok hS hg h2
    exact ⟨by simp [e1], by simp only [List.map_cons, MatL]; exact ⟨_, _, rfl, opd_ok hS hg h1, e2⟩⟩

theorem fill_ok {fs : List (Nat × Nat × Bool)} {place : Nat → Option (Nat × Nat)} (hp : ∀ (i off n : Nat) (g : Bool), fs[i]? = some (off, n, g) → place i = some (off, n)) :
    ∀ {ps : List (Nat × SV)} {cs cs' : List SV} {cells : Array Value} {us : List (Nat × Value)}, MatL w ρ s.chunk cs cells.toList → buildCells fs cs ps = some cs' → us.map (·.1) = ps.map (·.1) → MatL w ρ s.chunk (ps.map (·.2)) (us.map (·.2)) →
      ∃ cells', Instr.fill place cells us = some cells' ∧ MatL w ρ s.chunk cs' cells'.toList
  | [], cs, cs', cells, us, h, hb, h1, h2 => by
    simp only [buildCells] at hb; injection hb with hb; subst hb
    cases us with
    | nil => exact ⟨cells, rfl, h⟩
    | cons _ _ => simp at h1
  | (i, x) :: ps, cs, cs', cells, us, h, hb, h1, h2 => by
    cases us with
    | nil => simp at h1
    | cons u us =>
      obtain ⟨i', u⟩ := u
      simp only [List.map_cons, List.cons.injEq] at h1
      obtain ⟨rfl, h1⟩ := h1
      simp only [List.map_cons, MatL] at h2
      obtain ⟨v, r, e, g1, g2⟩ := h2
      injection e with e1 e2; subst e1 e2
      simp only [buildCells] at hb
      cases hf : fs[i']? with
      | none => rw [hf] at hb; simp at hb
      | some q =>
        obtain ⟨off, n, ag⟩ := q
        rw [hf] at hb
        dsimp only at hb
        cases hc : (Nat.beq (cellsOf x).length n && (cellsOf x).all cellLike) with
        | false => rw [hc] at hb; simp at hb
        | true =>
          rw [hc] at hb
          simp only [cond_true, Option.bind_eq_some_iff] at hb
          obtain ⟨cs2, hb1, hb2⟩ := hb
          simp only [Bool.and_eq_true] at hc
          obtain ⟨hM, _⟩ := cells_ok g1 hc.2
          have hn := Nat.eq_of_beq_eq_true hc.1
          obtain ⟨q, e1, e2⟩ := setAt_mat h hb1 hM
          have hl := setAt_len e1
          have hvl : u.cells.size = n := by have := hM.len; simp only [Array.length_toList] at this; omega
          have hfold := fold_setAt (cells := cells) (us := u.cells.toList) e1
          simp only [Array.toArray_toList] at hfold
          obtain ⟨cells', f1, f2⟩ := fill_ok hp (cells := q.toArray) (by simpa using e2) hb2 h1 g2
          refine ⟨cells', ?_, f2⟩
          simp only [Instr.fill, hp i' off n ag hf]
          rw [if_neg]
          · rw [← f1]; congr 1
          · simp only [Array.length_toList] at hl
            simp [hvl]; omega

theorem places_ok {fields : Array Field} {fs : List (Nat × Nat × Bool)} (hsz : fields.size = fs.length)
    (hfs : ∀ (f off n : Nat) (g : Bool), fs[f]? = some (off, n, g) → ∃ (fd : Field) (i : TypeInfo) (d : TypeDesc), fields[f]? = some fd ∧ fd.offset = off ∧ P.info? fd.type = some i ∧ i.size = n ∧ n ≠ 0 ∧ P.underlying fd.type = some d ∧ descAgg d = g) :
    ∃ places : Array (Nat × Nat), (fields.mapM fun f => (do pure (f.offset, ← sizeOf f.type) : Sem (Nat × Nat))).run P w = .ok places w ∧ ∀ (i off n : Nat) (g : Bool), fs[i]? = some (off, n, g) → places[i]? = some (off, n) := by
  have key : ∀ (l : List Field) (fs : List (Nat × Nat × Bool)), l.length = fs.length → (∀ (f off n : Nat) (g : Bool), fs[f]? = some (off, n, g) → ∃ (fd : Field) (i : TypeInfo), l[f]? = some fd ∧ fd.offset = off ∧ P.info? fd.type = some i ∧ i.size = n) →
      (l.mapM fun f => (do pure (f.offset, ← sizeOf f.type) : Sem (Nat × Nat))).run P w = .ok (fs.map fun x => (x.1, x.2.1)) w := by
    intro l
    induction l with
    | nil => intro fs h _; cases fs with
      | nil => rfl
      | cons _ _ => simp at h
    | cons x l ih =>
      intro fs h hf
      cases fs with
      | nil => simp at h
      | cons y fs =>
        obtain ⟨off, n, g⟩ := y
        obtain ⟨fd, i, e1, e2, e3, e4⟩ := hf 0 off n g rfl
        simp at e1; subst e1
        have := ih fs (by simpa using h) (fun f off n g hfg => by simpa using hf (f + 1) off n g (by simpa using hfg))
        simp only [List.mapM_cons, Sem.run_bind, run_size e3, Result.andThen_ok, Sem.run_pure, this, List.map_cons, e2, e4]
  refine ⟨(fs.map fun x => (x.1, x.2.1)).toArray, ?_, fun i off n g h => by simp [h]⟩
  rw [Array.mapM_eq_mapM_toList]
  have := key fields.toList fs (by simpa using hsz) (fun f off n g h => by
    obtain ⟨fd, i, d, e1, e2, e3, e4, _⟩ := hfs f off n g h
    exact ⟨fd, i, by simpa using e1, e2, e3, e4⟩)
  simp only [Sem.run_map, this, Result.andThen_ok]

theorem matL_lits : ∀ (vs : List Value), MatL w ρ s.chunk (litZ vs) vs
  | [] => by simp [litZ, MatL]
  | v :: vs => by
    have := matL_lits vs
    simp only [litZ, List.map_cons, MatL] at this ⊢
    exact ⟨v, vs, rfl, mat_lit.2 rfl, this⟩

theorem run_zero {t : TypeId} {i : TypeInfo} {z : Value} (h : P.info? t = some i) (hz : i.zero = some z) : (zeroValue t).run P w = .ok z w := by simp [zeroValue, typeInfo, h, hz]

theorem pure_build (hT : TabOk P U tab) (hS : Sat w0 M N s.slot s.chunk ρ F a w) {tags : List (Nat × Bool)} (hg : TagsHold s tags) {dst : Nat → Option Nat} {o : Oper} {t : TypeId} {ps : Array (Nat × Operand)} (ho : o.op = .build t ps) {sig : Sig} {z : Out U} {e : Eff U}
    (h : (aop tab sig dst tags o).run s = some z) (hr : Resolves CR z e) : Pure P s a w ρ o e := by
  simp only [aop, ho] at h
  split at h
  · rename_i fs hty
    have hq := Rd.run_bind h; clear h; obtain ⟨vs, h1, h⟩ := hq
    have hq := Rd.run_bind h; clear h; obtain ⟨L, h2, h⟩ := hq
    replace h2 := Rd.run_of h2
    have hq := Rd.run_bind h; clear h; obtain ⟨cs, h3, h⟩ := hq
    replace h3 := Rd.run_of h3
    have := okE_inv h hr
    subst this
    obtain ⟨e1, e2⟩ := partsOf_ok hS hg h1
    obtain ⟨fields, hun, hsz, hfs⟩ := hT.agg t fs hty
    obtain ⟨inf, zv, d, hin, hisz, hz, hzc, _, _⟩ := hT.lay t L h2
    obtain ⟨places, hpl, hpl2⟩ := places_ok (P := P) (w := w) hsz hfs
    have hM : MatL w ρ s.chunk (litZ L.zero) zv.cells.toList := by rw [hzc]; exact matL_lits _
    have he : (ps.map fun x => (x.1, a.eval x.2)).toList = ps.toList.map fun x => (x.1, a.eval x.2) := by simp
    obtain ⟨cells', f1, f2⟩ := fill_ok (fs := fs) (place := (places[·]?)) hpl2 hM h3 (us := ps.toList.map fun x => (x.1, a.eval x.2)) (by rw [List.map_map]; exact e1.symm) (by rw [List.map_map]; exact e2)
    refine ⟨_, .agg cells', rfl, ?_, by simp only [Mat]; exact ⟨cells'.toList, by simp, f2⟩⟩
    simp only [execOp, ho, Instr.build, Sem.run_bind, run_zero hin hz, Result.andThen_ok, run_underlying hun w, hpl, he, f1, Sem.run_pure]
  · rename_i n m g hty
    have hq := Rd.run_bind h; clear h; obtain ⟨vs, h1, h⟩ := hq
    have hq := Rd.run_bind h; clear h; obtain ⟨L, h2, h⟩ := hq
    replace h2 := Rd.run_of h2
    have hq := Rd.run_bind h; clear h; obtain ⟨cs, h3, h⟩ := hq
    replace h3 := Rd.run_of h3
    have := okE_inv h hr
    subst this
    obtain ⟨e1, e2⟩ := partsOf_ok hS hg h1
    obtain ⟨n', et, ie, hun, hie, him⟩ := hT.arr t n m g hty
    obtain ⟨inf, zv, d, hin, hisz, hz, hzc, _, _⟩ := hT.lay t L h2
    have hpl2 : ∀ (f off k : Nat) (g' : Bool), (arrFs n m g)[f]? = some (off, k, g') → (fun i => some (i * m, m) : Nat → Option (Nat × Nat)) f = some (off, k) := fun f off k g' hf => by
      unfold arrFs at hf
      rw [List.getElem?_map] at hf
      cases hq : (List.range n)[f]? with
      | none => rw [hq] at hf; simp at hf
      | some x =>
        rw [hq] at hf
        have hx : x = f := by
          rw [List.getElem?_range] at hq
          · injection hq with hq; exact hq.symm
          · exact Nat.lt_of_not_le fun hge => by rw [List.getElem?_eq_none (by simpa using hge)] at hq; cases hq
        subst hx
        simp only [Option.map_some, Option.some.injEq, Prod.mk.injEq] at hf
        obtain ⟨rfl, rfl, rfl⟩ := hf
        rfl
    have hM : MatL w ρ s.chunk (litZ L.zero) zv.cells.toList := by rw [hzc]; exact matL_lits _
    have he : (ps.map fun x => (x.1, a.eval x.2)).toList = ps.toList.map fun x => (x.1, a.eval x.2) := by simp
    obtain ⟨cells', f1, f2⟩ := fill_ok (fs := arrFs n m g) (place := fun i => some (i * m, m)) hpl2 hM h3 (us := ps.toList.map fun x => (x.1, a.eval x.2)) (by rw [List.map_map]; exact e1.symm) (by rw [List.map_map]; exact e2)
    have hsz : (sizeOf et).run P w = .ok m w := by rw [sizeOf]; simp [typeInfo, hie, him]
    refine ⟨_, .agg cells', rfl, ?_, by simp only [Mat]; exact ⟨cells'.toList, by simp, f2⟩⟩
    simp only [execOp, ho, Instr.build, Sem.run_bind, run_zero hin hz, Result.andThen_ok, run_underlying hun w, hsz, he, f1, Sem.run_pure]
  · simp [Rd.run] at h

end
end Go.Proofs.YtchohkelpjfpcaaDoor.AX

/- New chunks. No conditions. -/
namespace Go.Proofs.YtchohkelpjfpcaaDoor.AX
open Go Go.RowKit

section
variable {U : Uni} {P : Program} {tab : Tab} {w0 : World} {M : Own} {N : Nat} {s : St U} {a : Act} {w : World} {ρ : Nat → Value} {F : Nat → List Nat} {CR : FuncId → List (DV U) → DV U → List (DV U) → Prop}

theorem look_append {α : Type} (d : α) (l1 l2 : List (Nat × α)) (j : Nat) : look d (l1 ++ l2) j = look (look d l2 j) l1 j := by
  induction l1 with
  | nil => rfl
  | cons x l1 ih =>
    obtain ⟨i, y⟩ := x
    simp only [List.cons_append, look, ih]

theorem put_chunks {d : Option Nat} {e : Eff U} (j : Nat) : (s.put d e).chunk j = look (s.chunk j) e.ch j := look_append _ _ _ _

theorem look_cons {α : Type} {d : α} {i j : Nat} {x : α} {l : List (Nat × α)} : look d ((i, x) :: l) j = if i = j then x else look d l j := by
  simp only [look]
  by_cases h : i = j
  · subst h; simp
  · rw [beq_ne h, if_neg h]; rfl

theorem look_gone (c : Chunk U) : ∀ (l : List Nat) (j : Nat), look c (goneAll l) j = if j ∈ l then .gone else c
  | [], j => by simp [goneAll, look]
  | i :: l, j => by
    have ih := look_gone c l j
    simp only [goneAll, List.map_cons] at ih ⊢
    rw [look_cons, ih]
    by_cases h : i = j
    · subst h; simp
    · rw [if_neg h]
      by_cases h2 : j ∈ l
      · rw [if_pos h2, if_pos (by simp [h2])]
      · rw [if_neg h2, if_neg (by simp [h2, Ne.symm h])]

theorem Fr.alloc {w0 w : World} {M : Own} (h : Fr w0 M.bs w) (o : Obj) : Fr w0 M.bs (w.alloc o) :=
  ⟨h.os, h.tape, h.output, Nat.le_trans h.size (by simp), fun b hb hm => by
    rw [Below.heap_alloc w o b (Nat.lt_of_lt_of_le hb h.size)]; exact h.block b hb hm⟩

theorem agree_alloc {F : List Nat} (o : Obj) (h : ∀ b ∈ F, b < w.heap.size) : agree w (w.alloc o) F := fun b hb => Below.heap_alloc w o b (h b hb)

/-- A chunk that is new; others that are used up for it. -/
theorem Sat.make (hu : UniOk U) {sl : Nat → SV} {ch ch' : Nat → Chunk U} {ρ' : Nat → Value} {F' : Nat → List Nat} {w' : World} (hS : Sat w0 M N sl ch ρ F a w) (id : Nat) (hid : ch id = .fresh) (hfr : Fr w0 M.bs w') (hsz : w.heap.size ≤ w'.heap.size)
    (hold : ∀ j, j ≠ id → ρ' j = ρ j ∧ (∀ b ∈ F' j, b ∈ F j) ∧ agree w w' (F' j) ∧ Keep w w' (F j) (ch j) (ρ j) (ch' j) (ρ j) ∧ RepC w' (ρ j) (ch' j) (F' j) ∧ ((ch' j).own = true → (ch j).own = true) ∧ (∀ ty cs, ch' j = .box ty cs → ch j = .box ty cs ∧ F' j = F j))
    (hrep : RepC w' (ρ' id) (ch' id) (F' id)) (hfn : ∀ b ∈ F' id, (w.heap.size ≤ b ∧ b < w'.heap.size) ∨ ∃ m, m ≠ id ∧ (ch m).own = true ∧ b ∈ F m ∧ b ∉ F' m)
    (hbox : ∀ ty cs, ch' id = .box ty cs → ∃ b cur, ρ' id = .pointer (some ⟨b, 0, none⟩) ∧ w'.heap[b]? = some (.cells cur ty (0, 0)) ∧ MatL w ρ ch cs cur.toList) : Sat w0 M N sl ch' ρ' F' a w' := by
  have hk : ∀ i, Keep w w' (F i) (ch i) (ρ i) (ch' i) (ρ' i) := fun i => by
    by_cases e : i = id
    · subst e; rw [hid]; exact .born _ _ _
    · obtain ⟨h1, _, _, h4, _⟩ := hold i e
      rw [h1]; exact h4
  refine hS.change hu hk (fun i => ?_) (fun i ty cs hc => ?_) (fun i j hij ho b hb hb' => ?_) (fun i ho b hb => ?_) (fun i b hb => ?_) hfr
  · by_cases e : i = id
    · subst e; exact hrep
    · obtain ⟨h1, _, _, _, h5, _⟩ := hold i e
      rw [h1]; exact h5
  · by_cases e : i = id
    · subst e
      obtain ⟨b, cur, e1, e2, e3⟩ := hbox ty cs hc
      exact ⟨b, cur, e1, e2, MatL.step hu hk hS.rep cs e3⟩
    · obtain ⟨h1, h2, h3, h4, h5, h6, h7⟩ := hold i e
      obtain ⟨h7, h8⟩ := h7 ty cs hc
      obtain ⟨b, cur, e1, e2, e3⟩ := hS.box i ty cs h7
      refine ⟨b, cur, by rw [h1]; exact e1, ?_, MatL.step hu hk hS.rep cs e3⟩
      have hr := hS.rep i
      rw [h7] at hr
      obtain ⟨b', cur', q1, q2, q3⟩ := hr
      rw [e1] at q1; injection q1 with q1; injection q1 with q1; injection q1 with q1 _ _; subst q1
      rw [h3 b (by rw [h8, q3]; simp)]; exact e2
  · by_cases e : i = id
    · subst e
      have hj := hold j (Ne.symm hij)
      rcases hfn b hb with ⟨h1, _⟩ | ⟨m, hm, ho', h1, h2⟩
      · have := hS.lt j b (hj.2.1 b hb'); omega
      · by_cases e2 : j = m
        · subst e2; exact h2 hb'
        · exact hS.disj m j (Ne.symm e2) ho' b h1 (hj.2.1 b hb')
    · have hi := hold i e
      by_cases e2 : j = id
      · subst e2
        rcases hfn b hb' with ⟨h1, _⟩ | ⟨m, hm, ho', h1, h2⟩
        · have := hS.lt i b (hi.2.1 b hb); omega
        · by_cases e3 : i = m
          · subst e3; exact h2 hb
          · exact hS.disj m i (Ne.symm e3) ho' b h1 (hi.2.1 b hb)
      · exact hS.disj i j hij (hi.2.2.2.2.2.1 ho) b (hi.2.1 b hb) ((hold j e2).2.1 b hb')
  · by_cases e : i = id
    · subst e
      rcases hfn b hb with ⟨h1, _⟩ | ⟨m, hm, ho', h1, _⟩
      · exact .inr (Nat.le_trans hS.fr.size h1)
      · exact hS.mine m ho' b h1
    · have hi := hold i e
      exact hS.mine i (hi.2.2.2.2.2.1 ho) b (hi.2.1 b hb)
  · by_cases e : i = id
    · subst e
      rcases hfn b hb with ⟨_, h1⟩ | ⟨m, hm, ho', h1, _⟩
      · exact h1
      · exact Nat.lt_of_lt_of_le (hS.lt m b h1) hsz
    · exact Nat.lt_of_lt_of_le (hS.lt i b ((hold i e).2.1 b hb)) hsz

theorem run_newVar (t : TypeId) (v : Value) : (newVar t v).run P w = .ok ⟨w.heap.size, 0, none⟩ (w.alloc (.cells v.cells t)) := by
  simp [newVar, newRow, newObj, Sem.run]

theorem newC_inv {id : Nat} {c : Chunk U} {v : SV} {more : List (Nat × Chunk U)} {x : Out U} {e : Eff U} (h : (newC id c v more).run s = some x) (hr : Resolves CR x e) : s.chunk id = .fresh ∧ e = ⟨v, (id, c) :: more⟩ := by
  simp only [newC, Rd.run] at h
  cases hc : s.chunk id with
  | fresh => rw [hc] at h; simp only [Rd.run] at h; injection h with h; subst h; cases hr; exact ⟨rfl, rfl⟩
  | _ => rw [hc] at h; simp [Rd.run] at h

def upd {α : Type} (f : Nat → α) (i : Nat) (x : α) : Nat → α := fun j => if j = i then x else f j
theorem upd_same {α : Type} {f : Nat → α} {i : Nat} {x : α} : upd f i x i = x := by simp [upd]
theorem upd_ne {α : Type} {f : Nat → α} {i j : Nat} {x : α} (h : j ≠ i) : upd f i x j = f j := by simp [upd, h]

/-- A new box. -/
theorem box_born (hu : UniOk U) (hS : Sat w0 M N s.slot s.chunk ρ F a w) {id : Nat} (hid : s.chunk id = .fresh) {t : TypeId} {cs : List SV} {cells : Array Value} (hM : MatL w ρ s.chunk cs cells.toList) {dst : Option Nat} (hd : inside N dst = true) :
    SatE w0 M N (s.put dst ⟨.ptr id 0 [] 0 0, [(id, .box t cs)]⟩) (a.put dst (.pointer (some ⟨w.heap.size, 0, none⟩))) (w.alloc (.cells cells t)) := by
  have hch : (s.put dst (⟨.ptr id 0 [] 0 0, [(id, .box t cs)]⟩ : Eff U)).chunk = upd s.chunk id (.box t cs) := by
    funext j
    rw [put_chunks, look_cons]
    by_cases e : id = j
    · subst e; rw [if_pos rfl, upd_same]
    · rw [if_neg e, upd_ne (Ne.symm e)]; rfl
  refine ⟨upd ρ id (.pointer (some ⟨w.heap.size, 0, none⟩)), upd F id [w.heap.size], ?_⟩
  rw [put_slot, hch]
  have h1 : Sat w0 M N s.slot (upd s.chunk id (.box t cs)) (upd ρ id (.pointer (some ⟨w.heap.size, 0, none⟩))) (upd F id [w.heap.size]) a (w.alloc (.cells cells t)) := by
    refine hS.make hu id hid (hS.fr.alloc _) (by simp) (fun j hj => ?_) ?_ (fun b hb => ?_) (fun ty cs' hc => ?_)
    · rw [upd_ne hj, upd_ne hj, upd_ne hj]
      have ha := agree_alloc (w := w) (.cells cells t) (hS.lt j)
      exact ⟨rfl, fun b hb => hb, ha, .same _ _ ha, (hS.rep j).frame ha, fun h => h, fun ty cs h => ⟨h, rfl⟩⟩
    · rw [upd_same, upd_same, upd_same]
      exact ⟨w.heap.size, cells, rfl, heap_alloc_new w _, rfl⟩
    · rw [upd_same] at hb
      simp at hb; subst hb
      exact .inl ⟨Nat.le_refl _, by simp⟩
    · rw [upd_same] at hc ⊢
      injection hc with q1 q2; subst q1 q2
      exact ⟨w.heap.size, cells, rfl, heap_alloc_new w _, hM⟩
  refine h1.put hd fun d _ => ?_
  simp only [Mat, MatP, upd_same]
  exact ⟨_, rfl, w.heap.size, rfl, by simp [Addr.add]⟩

theorem ok_alloc (hT : TabOk P U tab) (hu : UniOk U) (hS : Sat w0 M N s.slot s.chunk ρ F a w) {tags : List (Nat × Bool)} {dst : Nat → Option Nat} {o : Oper} (hd : inside N o.dst = true) {t : TypeId} (ho : o.op = .alloc t) {sig : Sig} {z : Out U} {e : Eff U}
    (h : (aop tab sig dst tags o).run s = some z) (hr : Resolves CR z e) : ∃ v w', (execOp a.eval o).run P w = .ok (.value v) w' ∧ SatE w0 M N (s.put o.dst e) (a.put o.dst v) w' := by
  simp only [aop, ho] at h
  have hq := Rd.run_bind h; clear h; obtain ⟨L, h1, h⟩ := hq
  replace h1 := Rd.run_of h1
  obtain ⟨hid, rfl⟩ := newC_inv h hr
  obtain ⟨inf, zv, d, hin, hisz, hz, hzc, _, _⟩ := hT.lay t L h1
  refine ⟨_, _, ?_, box_born hu hS hid (t := t) (cells := zv.cells) (by rw [hzc]; exact matL_lits _) hd⟩
  simp only [execOp, ho, Instr.alloc, Sem.run_bind, run_zero hin hz, Result.andThen_ok, run_newVar, Sem.run_pure]

theorem ok_box (hT : TabOk P U tab) (hu : UniOk U) (hS : Sat w0 M N s.slot s.chunk ρ F a w) {tags : List (Nat × Bool)} (hg : TagsHold s tags) {dst : Nat → Option Nat} {o : Oper} (hd : inside N o.dst = true) {t : TypeId} {x : Operand} (ho : o.op = .box t x) {sig : Sig} {z : Out U} {e : Eff U}
    (h : (aop tab sig dst tags o).run s = some z) (hr : Resolves CR z e) : ∃ v w', (execOp a.eval o).run P w = .ok (.value v) w' ∧ SatE w0 M N (s.put o.dst e) (a.put o.dst v) w' := by
  simp only [aop, ho] at h
  have hq := Rd.run_bind h; clear h; obtain ⟨v, h1, h⟩ := hq
  cases hc : (cellsOf v).all cellLike with
  | false => rw [hc] at h; simp [Rd.run] at h
  | true =>
    rw [hc] at h
    obtain ⟨hid, rfl⟩ := newC_inv h hr
    obtain ⟨hM, _⟩ := cells_ok (opd_ok hS hg h1) hc
    refine ⟨_, _, ?_, box_born hu hS hid (t := t) hM hd⟩
    simp only [execOp, ho, Instr.box, Sem.run_bind, run_newVar, Result.andThen_ok, Sem.run_pure]

end
end Go.Proofs.YtchohkelpjfpcaaDoor.AX

/- New rows: made of parts, made by length. No conditions. -/
namespace Go.Proofs.YtchohkelpjfpcaaDoor.AX
open Go Go.RowKit

section
variable {U : Uni} {P : Program} {tab : Tab} {w0 : World} {M : Own} {N : Nat} {s : St U} {a : Act} {w : World} {ρ : Nat → Value} {F : Nat → List Nat} {CR : FuncId → List (DV U) → DV U → List (DV U) → Prop}

theorem distinct_nodup : ∀ {l : List Nat}, distinct l = true → l.Nodup
  | [], _ => List.nodup_nil
  | x :: l, h => by
    simp only [distinct, Bool.and_eq_true, List.all_eq_true] at h
    rw [List.nodup_cons]
    refine ⟨fun hx => ?_, distinct_nodup h.2⟩
    have := h.1 x hx
    simp at this

theorem flat_nodup : ∀ {ids : List Nat}, ids.Nodup → (∀ i ∈ ids, (F i).Nodup) → (∀ i ∈ ids, ∀ j ∈ ids, i ≠ j → ∀ b ∈ F i, b ∉ F j) → (ids.flatMap F).Nodup
  | [], _, _, _ => by simp
  | i :: ids, h, hn, hd => by
    rw [List.nodup_cons] at h
    rw [List.flatMap_cons, List.nodup_append]
    refine ⟨hn i (by simp), flat_nodup h.2 (fun j hj => hn j (by simp [hj])) (fun x hx y hy => hd x (by simp [hx]) y (by simp [hy])), fun b hb c hc e => ?_⟩
    subst e
    obtain ⟨j, hj, hbj⟩ := List.mem_flatMap.1 hc
    exact hd i (by simp) j (by simp [hj]) (fun e => h.1 (e ▸ hj)) b hb hbj

/-- Own rows. -/
def Mine (s : St U) (ids : List Nat) : Prop := ∀ i ∈ ids, ∃ v k l, s.chunk i = .row true v k l

theorem moveIn_ok (hS : Sat w0 M N s.slot s.chunk ρ F a w) {t : T U.El} {x : SV} {t' : T U.El} {ids : List Nat} {v : Value} (h : (moveIn (U := U) t x).run s = some (t', ids)) (hm : Mat w ρ s.chunk x v) : (∃ d, RepT true d w v t' (ids.flatMap F)) ∧ Mine s ids := by
  unfold moveIn at h
  split at h
  · simp [Rd.run] at h; obtain ⟨rfl, rfl⟩ := h
    rw [mat_lit] at hm; subst hm
    exact ⟨⟨1, [], [], [], ⟨⟨by simp, .inl ⟨rfl, rfl⟩⟩, rfl⟩, by simp [RepL], rfl, fun _ => by simp⟩, fun i hi => by simp at hi⟩
  · rename_i k l id ver
    simp only [Rd.run] at h
    cases ec : s.chunk id with
    | row own cv k2 l2 =>
      rw [ec] at h
      cases own with
      | false => simp [Rd.run] at h
      | true =>
        simp [Rd.run] at h; obtain ⟨rfl, rfl⟩ := h
        simp only [Mat, MatS, ec] at hm
        rw [hm.2.1 trivial]
        have := hS.rep id
        rw [ec] at this
        obtain ⟨d, this⟩ := this
        refine ⟨⟨d, by simpa using this⟩, fun i hi => ?_⟩
        simp at hi; subst hi
        exact ⟨_, _, _, ec⟩
    | _ => rw [ec] at h; simp [Rd.run] at h
  · rename_i y z
    simp [Rd.run] at h; obtain ⟨rfl, rfl⟩ := h
    rw [mat_lit] at hm; subst hm
    exact ⟨⟨0, rfl, by simp⟩, fun i hi => by simp at hi⟩
  · simp [Rd.run] at h

theorem Mine.append {a b : List Nat} (h : Mine s a) (h' : Mine s b) : Mine s (a ++ b) := fun i hi => (List.mem_append.1 hi).elim (h i) (h' i)

theorem moveAll_ok (hS : Sat w0 M N s.slot s.chunk ρ F a w) : ∀ {ts : List (T U.El)} {xs : List SV} {ts' : List (T U.El)} {ids : List Nat} {us : List Value}, (moveAll (U := U) ts xs).run s = some (ts', ids) → MatL w ρ s.chunk xs us → (∃ d, RepL (RepT true d w) us ts' (ids.flatMap F)) ∧ Mine s ids
  | [], [], ts', ids, us, h, hm => by
    simp [moveAll, Rd.run] at h; obtain ⟨rfl, rfl⟩ := h
    simp only [MatL] at hm; subst hm
    exact ⟨⟨0, by simp [RepL]⟩, fun i hi => by simp at hi⟩
  | [], _ :: _, _, _, _, h, _ => by simp [moveAll, Rd.run] at h
  | _ :: _, [], _, _, _, h, _ => by simp [moveAll, Rd.run] at h
  | t :: ts, x :: xs, ts', ids, us, h, hm => by
    simp only [moveAll] at h
    have hq := Rd.run_bind h; clear h; obtain ⟨p, h1, h⟩ := hq
    have hq := Rd.run_bind h; clear h; obtain ⟨q, h2, h⟩ := hq
    simp [Rd.run] at h; obtain ⟨rfl, rfl⟩ := h
    simp only [MatL] at hm
    obtain ⟨v, r, rfl, g1, g2⟩ := hm
    obtain ⟨⟨d1, r1⟩, m1⟩ := moveIn_ok hS (t' := p.1) (ids := p.2) h1 g1
    obtain ⟨⟨d2, r2⟩, m2⟩ := moveAll_ok hS (ts' := q.1) (ids := q.2) h2 g2
    refine ⟨⟨max d1 d2, p.2.flatMap F, q.2.flatMap F, r1.mono (by omega), r2.imp fun _ _ _ h _ => h.mono (by omega), by simp⟩, m1.append m2⟩

theorem elems_ok (hu : UniOk U) (hS : Sat w0 M N s.slot s.chunk ρ F a w) {k : Nat} : ∀ {ps : List (Nat × SV)} {j : Nat} {xs : List (U.El k)} {ids : List Nat} {us : List (Nat × Value)}, (elems (U := U) k j ps).run s = some (xs, ids) → us.map (·.1) = ps.map (·.1) → MatL w ρ s.chunk (ps.map (·.2)) (us.map (·.2)) →
    (∃ d, RepL (RepT true d w) ((us.map fun u => u.2.cells.toList).flatten) (xs.flatMap (U.enc k)) (ids.flatMap F)) ∧ Mine s ids ∧ xs.length = ps.length ∧ (∀ u ∈ us, u.2.cells.size = U.sz k) ∧ us.map (·.1) = (List.range' j ps.length)
  | [], j, xs, ids, us, h, h1, h2 => by
    simp [elems, Rd.run] at h; obtain ⟨rfl, rfl⟩ := h
    cases us with
    | nil => exact ⟨⟨0, by simp [RepL]⟩, fun i hi => by simp at hi, rfl, by simp, rfl⟩
    | cons _ _ => simp at h1
  | (i, x) :: ps, j, xs, ids, us, h, h1, h2 => by
    cases us with
    | nil => simp at h1
    | cons u us =>
      obtain ⟨i', u⟩ := u
      simp only [List.map_cons, List.cons.injEq] at h1
      obtain ⟨rfl, h1⟩ := h1
      simp only [List.map_cons, MatL] at h2
      obtain ⟨v, r, e, g1, g2⟩ := h2
      injection e with e1 e2; subst e1 e2
      simp only [elems] at h
      cases hj : Nat.beq i' j with
      | false => rw [hj] at h; simp [Rd.run] at h
      | true =>
        rw [hj] at h
        simp only [cond_true] at h
        have hj := Nat.eq_of_beq_eq_true hj
        subst hj
        have hq := Rd.run_bind h; clear h; obtain ⟨p, h3, h⟩ := hq
        have hq := Rd.run_bind h; clear h; obtain ⟨y, h4, h⟩ := hq
        replace h4 := Rd.run_of h4
        have hq := Rd.run_bind h; clear h; obtain ⟨q, h5, h⟩ := hq
        simp [Rd.run] at h; obtain ⟨rfl, rfl⟩ := h
        have hcl : (cellsOf x).all cellLike = true := by
          have key : ∀ (ts : List (T U.El)) (xs : List SV) r, (moveAll (U := U) ts xs).run s = some r → (∀ t ∈ ts, ∀ v, t = .lit v → v.oneCell' = true) → (∀ t ∈ r.1, ∀ v, t = .lit v → v.oneCell' = true) → xs.all cellLike = true := by
            intro ts
            induction ts with
            | nil => intro xs r h _ _; cases xs with
              | nil => rfl
              | cons _ _ => simp [moveAll, Rd.run] at h
            | cons t ts ih => intro xs r h ht hr; cases xs with
              | nil => simp [moveAll, Rd.run] at h
              | cons x xs =>
                simp only [moveAll] at h
                have hq := Rd.run_bind h; clear h; obtain ⟨p, a1, h⟩ := hq
                have hq := Rd.run_bind h; clear h; obtain ⟨q, a2, h⟩ := hq
                simp [Rd.run] at h; subst h
                have hx := ih xs q a2 (fun t h => ht t (by simp [h])) (fun t h => hr t (by simp [h]))
                simp only [List.all_cons, hx, Bool.and_true]
                unfold moveIn at a1
                split at a1
                · rfl
                · rfl
                · rename_i z1 z2
                  simp [Rd.run] at a1; subst a1
                  exact hr (.lit z2) (by simp) z2 rfl
                · simp [Rd.run] at a1
          exact key _ _ _ h3 (fun t ht v e => by subst e; exact hu.one k _ v ht) (fun t ht v e => by subst e; rw [← hu.dec k _ _ h4] at ht; exact hu.one k _ v ht)
        obtain ⟨hM, _⟩ := cells_ok g1 hcl
        obtain ⟨⟨d1, r1⟩, m1⟩ := moveAll_ok hS (ts' := p.1) (ids := p.2) h3 hM
        obtain ⟨⟨d2, r2⟩, m2, m3, m4, m5⟩ := elems_ok hu hS (xs := q.1) (ids := q.2) h5 h1 g2
        have e := hu.dec k _ _ h4
        have hsz : u.cells.size = U.sz k := by have := r1.len; rw [← e, hu.len] at this; simpa using this
        refine ⟨⟨max d1 d2, ?_⟩, m1.append m2, by simp [m3], ?_, ?_⟩
        · simp only [List.map_cons, List.flatten_cons, List.flatMap_cons, List.flatMap_append]
          refine RepL.join ?_ (r2.imp fun _ _ _ h _ => h.mono (by omega))
          rw [e]
          exact r1.imp fun _ _ _ h _ => h.mono (by omega)
        · intro z hz
          rcases List.mem_cons.1 hz with rfl | hz
          · exact hsz
          · exact m4 z hz
        · simp only [List.map_cons, List.length_cons, List.range'_succ, m5]

/-- A new row, out of nothing or of chunks that are used up. -/
theorem row_born (hu : UniOk U) (hS : Sat w0 M N s.slot s.chunk ρ F a w) {id : Nat} (hid : s.chunk id = .fresh) {mv : List Nat} (hmv : ∀ m ∈ mv, (s.chunk m).own = true) {k : Nat} {l : List (U.El k)} {loc : Value} {FN : List Nat} {w' : World} (hfr : Fr w0 M.bs w') (hsz : w.heap.size ≤ w'.heap.size)
    (hag : ∀ j, j ≠ id → j ∉ mv → agree w w' (F j)) (hrep : ∃ d, RepT true d w' loc (.row k l) FN) (hfn : ∀ b ∈ FN, (w.heap.size ≤ b ∧ b < w'.heap.size) ∨ ∃ m ∈ mv, b ∈ F m) {dst : Option Nat} (hd : inside N dst = true) :
    SatE w0 M N (s.put dst ⟨.slc id 0 [], (id, .row true 0 k l) :: goneAll mv⟩) (a.put dst loc) w' := by
  have hch : (s.put dst (⟨.slc id 0 [], (id, .row true 0 k l) :: goneAll mv⟩ : Eff U)).chunk = fun j => if id = j then .row true 0 k l else if j ∈ mv then .gone else s.chunk j := by
    funext j
    rw [put_chunks, look_cons, look_gone]
  have hmid : id ∉ mv := fun h => by have := hmv id h; rw [hid] at this; simp [Chunk.own] at this
  refine ⟨upd ρ id loc, fun j => if j = id then FN else if j ∈ mv then [] else F j, ?_⟩
  rw [put_slot, hch]
  have h1 : Sat w0 M N s.slot (fun j => if id = j then .row true 0 k l else if j ∈ mv then .gone else s.chunk j) (upd ρ id loc) (fun j => if j = id then FN else if j ∈ mv then [] else F j) a w' := by
    refine hS.make hu id hid hfr hsz (fun j hj => ?_) ?_ (fun b hb => ?_) (fun ty cs' hc => ?_)
    · rw [upd_ne hj, if_neg hj, if_neg (Ne.symm hj)]
      by_cases hm : j ∈ mv
      · rw [if_pos hm, if_pos hm]
        exact ⟨rfl, fun b hb => by simp at hb, fun b hb => by simp at hb, .dies _ _, rfl, fun h => by simp [Chunk.own] at h, fun ty cs h => by simp at h⟩
      · rw [if_neg hm, if_neg hm]
        have ha := hag j hj hm
        exact ⟨rfl, fun b hb => hb, ha, .same _ _ ha, (hS.rep j).frame ha, fun h => h, fun ty cs h => ⟨h, rfl⟩⟩
    · rw [upd_same, if_pos rfl, if_pos rfl]
      exact hrep
    · rw [if_pos rfl] at hb
      rcases hfn b hb with h | ⟨m, hm, hb⟩
      · exact .inl h
      · refine .inr ⟨m, fun (e : m = id) => hmid (e ▸ hm), hmv m hm, hb, ?_⟩
        rw [if_neg (fun (e : m = id) => hmid (e ▸ hm)), if_pos hm]; simp
    · rw [if_pos rfl] at hc; simp at hc
  refine h1.put hd fun d _ => ?_
  show Mat w' _ _ (.slc id 0 []) loc
  simp only [Mat, MatS, if_true, upd_same]
  obtain ⟨d, hrep⟩ := hrep
  obtain ⟨A, cap, e, _⟩ := hrep.row_slice
  exact ⟨⟨A, _, cap, e⟩, fun _ => trivial, fun h => absurd rfl h, fun _ => rfl⟩

theorem setAt_eq {α : Type} : ∀ {l : List α} {c : Nat} {ys r : List α}, setAt l c ys = some r → r = l.take c ++ ys ++ l.drop (c + ys.length)
  | [], 0, [], r, h => by simp [setAt] at h; subst h; rfl
  | [], 0, _ :: _, r, h => by simp [setAt] at h
  | [], _ + 1, ys, r, h => by simp [setAt] at h
  | x :: l, 0, [], r, h => by simp [setAt] at h; subst h; simp
  | x :: l, 0, y :: ys, r, h => by
    simp only [setAt, Option.map_eq_some_iff] at h
    obtain ⟨q, h, rfl⟩ := h
    have := setAt_eq h
    simp at this ⊢; exact this
  | x :: l, c + 1, ys, r, h => by
    simp only [setAt, Option.map_eq_some_iff] at h
    obtain ⟨q, h, rfl⟩ := h
    have := setAt_eq h
    rw [this]
    simp [show c + 1 + ys.length = (c + ys.length) + 1 by omega]

theorem setAt_some {α : Type} : ∀ {l : List α} {c : Nat} {ys : List α}, c + ys.length ≤ l.length → ∃ r, setAt l c ys = some r
  | [], 0, [], h => ⟨[], rfl⟩
  | [], 0, _ :: _, h => by simp at h
  | [], _ + 1, ys, h => by simp at h
  | x :: l, 0, [], h => ⟨_, rfl⟩
  | x :: l, 0, y :: ys, h => by
    obtain ⟨r, hr⟩ := setAt_some (l := l) (c := 0) (ys := ys) (by simp at h ⊢; omega)
    exact ⟨y :: r, by simp [setAt, hr]⟩
  | x :: l, c + 1, ys, h => by
    obtain ⟨r, hr⟩ := setAt_some (l := l) (c := c) (ys := ys) (by simp at h ⊢; omega)
    exact ⟨x :: r, by simp [setAt, hr]⟩

theorem fill_seq (sz : Nat) : ∀ (us : List (Nat × Value)) (j : Nat) (cells : Array Value), us.map (·.1) = List.range' j us.length → (∀ u ∈ us, u.2.cells.size = sz) → cells.size = (j + us.length) * sz →
    ∃ r : Array Value, Instr.fill (fun i => some (i * sz, sz)) cells us = some r ∧ r.toList = cells.toList.take (j * sz) ++ (us.map fun u => u.2.cells.toList).flatten
  | [], j, cells, _, _, h => ⟨cells, rfl, by simp; rw [List.take_of_length_le (by simp [h])]⟩
  | (i, u) :: us, j, cells, h1, h2, h3 => by
    simp only [List.map_cons, List.length_cons, List.range'_succ, List.cons.injEq] at h1
    obtain ⟨rfl, h1⟩ := h1
    have hu := h2 (i, u) (by simp)
    dsimp only at hu
    have hle : i * sz + sz ≤ cells.size := by
      rw [h3, List.length_cons, Nat.add_mul, Nat.add_mul]
      have : 0 ≤ us.length * sz := Nat.zero_le _
      omega
    obtain ⟨q, hq⟩ := setAt_some (l := cells.toList) (c := i * sz) (ys := u.cells.toList) (by simp only [Array.length_toList]; omega)
    have hfold := fold_setAt hq
    simp only [Array.toArray_toList] at hfold
    have hql := setAt_len hq
    obtain ⟨r, hr, he⟩ := fill_seq sz us (i + 1) q.toArray h1 (fun x hx => h2 x (by simp [hx])) (by simp only [List.size_toArray, hql.1, Array.length_toList, h3, List.length_cons]; congr 1; omega)
    refine ⟨r, ?_, ?_⟩
    · simp only [Instr.fill]
      rw [if_neg]
      · rw [← hr, ← hfold]
      · simp [hu]; omega
    · rw [he]
      have hqe := setAt_eq hq
      simp only [List.map_cons, List.flatten_cons]
      rw [hqe]
      rw [List.take_append_of_le_length (by simp only [List.length_append, List.length_take, Array.length_toList]; rw [hu, Nat.add_mul]; omega)]
      rw [List.take_of_length_le (by simp only [List.length_append, List.length_take, Array.length_toList]; rw [hu, Nat.add_mul]; omega)]
      rw [List.append_assoc]

end
end Go.Proofs.YtchohkelpjfpcaaDoor.AX

/- Rows of parts, rows made by length. No conditions. -/
namespace Go.Proofs.YtchohkelpjfpcaaDoor.AX
open Go Go.RowKit

section
variable {U : Uni} {P : Program} {tab : Tab} {w0 : World} {M : Own} {N : Nat} {s : St U} {a : Act} {w : World} {ρ : Nat → Value} {F : Nat → List Nat} {CR : FuncId → List (DV U) → DV U → List (DV U) → Prop}

theorem mine_own {ids : List Nat} (h : Mine s ids) : ∀ m ∈ ids, (s.chunk m).own = true := fun m hm => by
  obtain ⟨v, k, l, e⟩ := h m hm
  rw [e]; rfl

theorem mine_flat (hS : Sat w0 M N s.slot s.chunk ρ F a w) {ids : List Nat} (h : Mine s ids) (hn : ids.Nodup) : (ids.flatMap F).Nodup := by
  refine flat_nodup hn (fun i hi => ?_) (fun i hi j hj hij => hS.disj i j hij (mine_own h i hi))
  obtain ⟨v, k, l, e⟩ := h i hi
  have := hS.rep i
  rw [e] at this
  obtain ⟨d, this⟩ := this
  exact this.nodup

theorem ok_buildSlice (hT : TabOk P U tab) (hu : UniOk U) (hS : Sat w0 M N s.slot s.chunk ρ F a w) {tags : List (Nat × Bool)} (hg : TagsHold s tags) {dst : Nat → Option Nat} {o : Oper} (hd : inside N o.dst = true) {t : TypeId} {n : Nat} {ps : Array (Nat × Operand)} (ho : o.op = .buildSlice t n ps) {sig : Sig} {z : Out U} {e : Eff U}
    (h : (aop tab sig dst tags o).run s = some z) (hr : Resolves CR z e) : ∃ v w', (execOp a.eval o).run P w = .ok (.value v) w' ∧ SatE w0 M N (s.put o.dst e) (a.put o.dst v) w' := by
  simp only [aop, ho] at h
  split at h
  · rename_i k hty
    have hq := Rd.run_bind h; clear h; obtain ⟨vs, h1, h⟩ := hq
    cases hc : (Nat.beq vs.length n && Nat.ble (n * U.sz k) 16777216) with
    | false => rw [hc] at h; simp [Rd.run] at h
    | true =>
      rw [hc] at h
      simp only [cond_true] at h
      simp only [Bool.and_eq_true] at hc
      have hn := Nat.eq_of_beq_eq_true hc.1
      have hsz := Nat.le_of_ble_eq_true hc.2
      have hq := Rd.run_bind h; clear h; obtain ⟨m, h2, h⟩ := hq
      cases hdi : distinct m.2 with
      | false => rw [hdi] at h; simp [Rd.run] at h
      | true =>
        rw [hdi] at h
        simp only [cond_true] at h
        obtain ⟨hid, rfl⟩ := newC_inv h hr
        obtain ⟨e1, e2⟩ := partsOf_ok hS hg h1
        obtain ⟨hun, inf, zv, hin, hz, hisz, hzs, hpos, _, _⟩ := hT.slice t k hty
        obtain ⟨⟨d, hR⟩, hmine, hlen, hcs, hidx⟩ := elems_ok hu hS (xs := m.1) (ids := m.2) (us := ps.toList.map fun x => (x.1, a.eval x.2)) h2 (by rw [List.map_map]; exact e1.symm) (by rw [List.map_map]; exact e2)
        have hpl : ps.toList.length = n := by rw [← hn, ← (by simp : (vs.map (·.1)).length = vs.length), e1, List.length_map]
        have hbase : ((Array.range (n * inf.size)).map (zv.cells[· % zv.cells.size]!)).size = (0 + (ps.toList.map fun x => (x.1, a.eval x.2)).length) * U.sz k := by simp [hisz, ← hpl]
        obtain ⟨r, hf, hrl⟩ := fill_seq (U.sz k) (ps.toList.map fun x => (x.1, a.eval x.2)) 0 _ (by rw [hidx]; simp [hn, ← hpl]) hcs hbase
        simp only [Nat.zero_mul, List.take_zero, List.nil_append] at hrl
        have hrs : r.size = n * U.sz k := by
          have := hR.len
          rw [← hrl, flat_len hu, hlen, hn] at this
          simpa using this
        have hmax : n ≤ maxLen := by
          have : n * 1 ≤ n * U.sz k := Nat.mul_le_mul_left n hpos
          unfold maxLen; omega
        have hrun : (execOp a.eval o).run P w = .ok (.value (.slice (some ⟨w.heap.size, 0, none⟩) n n)) (w.alloc (.cells r (U.ty k))) := by
          have hne : ¬ (n * inf.size > 2 ^ 24) := by rw [hisz]; omega
          have hfill : ∀ zc : Array Value, (n * inf.size = 0 ∨ zc = zv.cells) → Instr.fill (fun i => some (i * inf.size, inf.size)) ((Array.range (n * inf.size)).map (zc[· % zc.size]!)) (ps.map fun x => (x.1, a.eval x.2)).toList = some r := fun zc hzc => by
            rw [hisz] at hf hzc ⊢
            have e3 : (ps.map fun x => (x.1, a.eval x.2)).toList = ps.toList.map fun x => (x.1, a.eval x.2) := by simp
            rw [e3, ← hf]
            congr 1
            rcases hzc with h0 | rfl
            · simp [h0]
            · rfl
          have hnew : (newRow (U.ty k) r).run P w = .ok ⟨w.heap.size, 0, none⟩ (w.alloc (.cells r (U.ty k))) := by simp [newRow, newObj, Sem.run]
          simp only [execOp, ho, Instr.buildSlice, Sem.run_bind, run_underlying hun w, Result.andThen_ok, run_size hin, if_neg hne]
          by_cases h0 : n * inf.size = 0
          · rw [if_pos h0]
            simp only [Sem.run_bind, Sem.run_pure, Result.andThen_ok, hfill #[] (.inl h0), hnew]
          · rw [if_neg h0]
            simp only [Sem.run_bind, Sem.run_pure, Result.andThen_ok, run_zero hin hz, hfill zv.cells (.inr rfl), hnew]
        refine ⟨_, _, hrun, ?_⟩
        have hown := OwnR.of (World.ownsRow_lit (e := U.ty k) (base := 0) (size := U.sz k) w r n (Nat.zero_le _) hmax hrs)
        have hnd := mine_flat hS hmine (distinct_nodup hdi)
        have hlt : ∀ b ∈ m.2.flatMap F, b < w.heap.size := fun b hb => by
          obtain ⟨i, _, hb⟩ := List.mem_flatMap.1 hb
          exact hS.lt i b hb
        refine row_born hu hS hid (mine_own hmine) (hS.fr.alloc _) (by simp) (fun j _ _ => agree_alloc _ (hS.lt j)) (FN := [w.heap.size] ++ m.2.flatMap F) ⟨d + 1, r.toList, [w.heap.size], m.2.flatMap F, ⟨by rw [hlen, hn]; exact hown, rfl⟩, ?_, rfl, fun _ => ?_⟩ (fun b hb => ?_) hd
        · rw [hrl]
          exact hR.imp fun v t G h hb => h.frame (agree_alloc _ fun b hx => hlt b (hb b hx))
        · rw [List.singleton_append, List.nodup_cons]
          exact ⟨fun h => by have := hlt _ h; omega, hnd⟩
        · rcases List.mem_append.1 hb with h | h
          · simp at h; subst h; exact .inl ⟨Nat.le_refl _, by simp⟩
          · obtain ⟨i, hi, hb⟩ := List.mem_flatMap.1 h
            exact .inr ⟨i, hi, hb⟩
  · simp [Rd.run] at h

theorem zeroL_rep : ∀ {vs : List Value} {ts : List (T U.El)}, ZeroL vs ts → RepL (RepT true 1 w) vs ts []
  | [], [], _ => rfl
  | [], _ :: _, h => h.elim
  | _ :: _, [], h => h.elim
  | v :: vs, .lit x :: ts, h => ⟨[], [], ⟨h.1, rfl⟩, zeroL_rep h.2, rfl⟩
  | v :: vs, .row k l :: ts, h => by
    obtain ⟨rfl, rfl, h⟩ := h
    exact ⟨[], [], ⟨[], [], [], ⟨⟨by simp, .inl ⟨rfl, rfl⟩⟩, rfl⟩, by simp [RepL], rfl, fun _ => by simp⟩, zeroL_rep h, rfl⟩

theorem made_list (z : Array Value) (n : Nat) : (madeCells z (n * z.size)).toList = (List.replicate n z.toList).flatten := by
  apply List.ext_getElem?
  intro j
  have hl : ((List.replicate n z.toList).flatten).length = n * z.size := by simp
  by_cases hj : j < n * z.size
  · have hz : 0 < z.size := by
      rcases Nat.eq_zero_or_pos z.size with h | h
      · rw [h] at hj; simp at hj
      · exact h
    have hm := Nat.mod_lt j hz
    have h1 : (madeCells z (n * z.size)).toList[j]? = z[j % z.size]? := by
      simp [madeCells, hj, hm]
    rw [h1]
    have key : ∀ (n j : Nat), j < n * z.size → ((List.replicate n z.toList).flatten)[j]? = z[j % z.size]? := by
      intro n
      induction n with
      | zero => intro j hj; simp at hj
      | succ n ih =>
        intro j hj
        simp only [List.replicate_succ, List.flatten_cons]
        by_cases h : j < z.size
        · rw [List.getElem?_append_left (by simpa using h)]
          simp [Nat.mod_eq_of_lt h]
        · rw [List.getElem?_append_right (by simpa using h)]
          have := ih (j - z.toList.length) (by simp only [Array.length_toList]; rw [Nat.add_mul] at hj; omega)
          rw [this]
          simp only [Array.length_toList]
          rw [← Nat.mod_eq_sub_mod (by omega)]
    exact (key n j hj).symm
  · rw [List.getElem?_eq_none (by simp [madeCells]; omega), List.getElem?_eq_none (by rw [hl]; omega)]

theorem rep_repl {k : Nat} (hu : UniOk U) {z : List Value} (h : RepL (RepT true 1 w) z (U.enc k (U.dfl k)) []) : ∀ n, RepL (RepT true 1 w) (List.replicate n z).flatten ((List.replicate n (U.dfl k)).flatMap (U.enc k)) []
  | 0 => by simp [RepL]
  | n + 1 => by
    simp only [List.replicate_succ, List.flatten_cons, List.flatMap_cons]
    exact h.join (rep_repl hu h n)

theorem ok_makeSlice (hT : TabOk P U tab) (hu : UniOk U) (hS : Sat w0 M N s.slot s.chunk ρ F a w) {tags : List (Nat × Bool)} (hg : TagsHold s tags) {dst : Nat → Option Nat} {o : Oper} (hd : inside N o.dst = true) {t : TypeId} {x y : Operand} (ho : o.op = .makeSlice t x y) {sig : Sig} {z : Out U} {e : Eff U}
    (h : (aop tab sig dst tags o).run s = some z) (hr : Resolves CR z e) : ∃ v w', (execOp a.eval o).run P w = .ok (.value v) w' ∧ SatE w0 M N (s.put o.dst e) (a.put o.dst v) w' := by
  simp only [aop, ho] at h
  split at h
  · rename_i k hty
    have hq := Rd.run_bind h; clear h; obtain ⟨vx, h1, h⟩ := hq
    have hq := Rd.run_bind h; clear h; obtain ⟨vy, h2, h⟩ := hq
    have m1 := opd_ok hS hg h1
    have m2 := opd_ok hS hg h2
    split at h
    · rename_i n m
      rw [mat_lit] at m1 m2
      simp only [Rd.run] at h
      cases hid : s.chunk (siteOf o) with
      | fresh =>
        rw [hid] at h
        simp only [Rd.run] at h
        injection h with h; subst h
        cases hr with
        | need _ _ _ hb hr =>
          cases hr
          simp only [Bool.and_eq_true, decide_eq_true_eq] at hb
          obtain ⟨⟨b0, b1⟩, b2⟩ := hb
          obtain ⟨hun, inf, zv, hin, hz, hisz, hzs, hpos, hby, hzl⟩ := hT.slice t k hty
          have hbytes : (inf.bytes : Int) * m ≤ 281474976710656 := by
            have h1 : (inf.bytes : Int) * m ≤ 512 * m := Int.mul_le_mul_of_nonneg_right (by omega) (by omega)
            have h2 : m ≤ 274877906944 := b2
            omega
          have hmm : m ≤ 274877906944 := b2
          have hrun := run_make (P := P) w t (U.ty k) inf zv hun hin hz .i64 .i64 n m b0 b1 hbytes (by omega)
          have hrun2 : (execOp a.eval o).run P w = .ok (.value (.slice (some ⟨w.heap.size, 0, none⟩) n.toNat m.toNat)) (w.alloc (.cells (madeCells zv.cells (m.toNat * inf.size)) (U.ty k))) := by
            simp only [execOp, ho, m1, m2, Sem.run_bind, hrun, Result.andThen_ok, Sem.run_pure]
          refine ⟨_, _, hrun2, ?_⟩
          have hcells : (madeCells zv.cells (m.toNat * inf.size)).toList.take (n.toNat * U.sz k) = (List.replicate n.toNat zv.cells.toList).flatten := by
            rw [hisz, ← hzs, made_list]
            obtain ⟨q, hq⟩ : ∃ q, m.toNat = n.toNat + q := ⟨m.toNat - n.toNat, by omega⟩
            rw [hq, ← List.replicate_append_replicate, List.flatten_append, List.take_append_of_le_length (by simp), List.take_of_length_le (by simp)]
          refine row_born hu hS hid (mv := []) (fun m hm => by simp at hm) (hS.fr.alloc _) (by simp) (fun j _ _ => agree_alloc _ (hS.lt j)) (FN := [w.heap.size]) ⟨2, (List.replicate n.toNat zv.cells.toList).flatten, [w.heap.size], [], ⟨⟨by simp [hzs], .inr ⟨w.heap.size, m.toNat, _, (0, 0), ?_, heap_alloc_new w _, .inl rfl, ?_, ?_, ?_, ?_⟩⟩, rfl⟩, ?_, by simp, fun _ => by simp⟩ (fun b hb => ?_) hd
          · simp
          · simp; omega
          · unfold maxLen; omega
          · rw [size_madeCells, hisz]
          · simp only [List.length_replicate]; exact hcells
          · exact rep_repl hu (zeroL_rep hzl) _
          · simp at hb; subst hb; exact .inl ⟨Nat.le_refl _, by simp⟩
      | _ => rw [hid] at h; simp [Rd.run] at h
    · simp [Rd.run] at h
  · simp [Rd.run] at h

end
end Go.Proofs.YtchohkelpjfpcaaDoor.AX

/- Append. No conditions. -/
namespace Go.Proofs.YtchohkelpjfpcaaDoor.AX
open Go Go.RowKit

section
variable {U : Uni} {P : Program} {tab : Tab} {w0 : World} {M : Own} {N : Nat} {s : St U} {a : Act} {w : World} {ρ : Nat → Value} {F : Nat → List Nat} {CR : FuncId → List (DV U) → DV U → List (DV U) → Prop}

theorem castRow_inv {k : Nat} {r : Row U} {l : List (U.El k)} (h : castRow k r = some l) : r = ⟨k, l⟩ := by
  unfold castRow at h
  obtain ⟨k', l'⟩ := r
  split at h
  · rename_i e
    dsimp only at e
    subst e
    injection h with h
    dsimp only at h
    rw [h]
  · simp at h

theorem lits_rep {own : Bool} {d : Nat} : ∀ {vs : List Value} {ts : List (T U.El)} {G : List Nat}, RepL (RepT own d w) vs ts G → (∀ t ∈ ts, ∃ x, t = .lit x) → RepL (RepT true 0 w) vs ts []
  | [], [], G, _, _ => rfl
  | [], _ :: _, _, h, _ => h.elim
  | _ :: _, [], _, h, _ => h.elim
  | v :: vs, t :: ts, G, ⟨F1, F2, h1, h2, e⟩, ht => by
    obtain ⟨x, rfl⟩ := ht t (by simp)
    refine ⟨[], [], ?_, lits_rep h2 (fun t h => ht t (by simp [h])), rfl⟩
    cases d <;> exact ⟨h1.1, rfl⟩

theorem flat_lits {k : Nat} (hu : UniOk U) (hf : U.nest k = false) (l : List (U.El k)) : ∀ t ∈ l.flatMap (U.enc k), ∃ x, t = .lit x := fun t ht => by
  obtain ⟨x, _, h⟩ := List.mem_flatMap.1 ht
  exact hu.flat k x hf t h

/-- What append adds. -/
def AddOk (U : Uni) (w : World) (F : Nat → List Nat) (k : Nat) (vx : Value) (l2 : List (U.El k)) (ids : List Nat) : Prop :=
  ∃ A c news G d, vx = .slice A l2.length c ∧ news.length = l2.length * U.sz k ∧ (A = none → l2.length = 0) ∧ (∀ ad, A = some ad → ∀ j u, news[j]? = some u → w.cell? (ad.add j) = some u) ∧
    RepL (RepT true d w) news (l2.flatMap (U.enc k)) G ∧ G.Nodup ∧ (∀ b ∈ G, ∃ m ∈ ids, b ∈ F m)

theorem row_news (hu : UniOk U) {own : Bool} {d : Nat} {v : Value} {k : Nat} {l : List (U.El k)} {G : List Nat} (hs : 0 < U.sz k) (h : RepT own d w v (.row k l) G) :
    ∃ A c cells H d', v = .slice A l.length c ∧ l.length ≤ c ∧ c ≤ maxLen ∧ cells.length = l.length * U.sz k ∧ (A = none → l.length = 0) ∧ (∀ ad, A = some ad → ∀ j u, cells[j]? = some u → w.cell? (ad.add j) = some u) ∧ RepL (RepT own d' w) cells (l.flatMap (U.enc k)) H ∧ (∀ b ∈ H, b ∈ G) ∧ (own = true → H.Nodup) := by
  cases d with
  | zero => exact h.elim
  | succ d =>
    obtain ⟨cells, B, H, h1, h2, e, hn⟩ := h
    obtain ⟨A, c, hv, hc, hc'⟩ := h1.slice
    refine ⟨A, c, cells, H, d, hv, hc, hc', h1.len, fun hA => ?_, fun ad hA j u hj => ?_, h2, fun b hb => by subst e; simp [hb], fun ho => by have := hn ho; subst e; exact (List.nodup_append.1 this).2.1⟩
    · subst hA
      rcases Nat.eq_zero_or_pos l.length with h | h
      · exact h
      · have hl := h1.len
        have : 0 < cells.length := by rw [hl]; exact Nat.mul_pos h hs
        obtain ⟨ad, cap, e', _⟩ := h1.cell (j := 0) (u := cells[0]) (by simp [this])
        rw [hv] at e'; simp at e'
    · subst hA
      obtain ⟨ad', cap, e', _, hcell, _⟩ := h1.cell hj
      rw [hv] at e'; injection e' with e' _ _; injection e' with e'; subst e'
      exact hcell

theorem added_ok (hu : UniOk U) (hS : Sat w0 M N s.slot s.chunk ρ F a w) {k : Nat} (hsz : 0 < U.sz k) {x : SV} {vx : Value} {l2 : List (U.El k)} {ids : List Nat} (h : (added (U := U) k x).run s = some (l2, ids)) (hm : Mat w ρ s.chunk x vx) :
    AddOk U w F k vx l2 ids ∧ Mine s ids := by
  unfold added at h
  cases hn : U.nest k with
  | true =>
    rw [hn] at h
    simp only [cond_true] at h
    split at h
    · simp [Rd.run] at h; obtain ⟨rfl, rfl⟩ := h
      rw [mat_lit] at hm; subst hm
      exact ⟨⟨none, 0, [], [], 0, rfl, by simp, fun _ => rfl, fun _ h => by simp at h, by simp [RepL], by simp, by simp⟩, fun i hi => by simp at hi⟩
    · rename_i id ver
      simp only [Rd.run] at h
      cases ec : s.chunk id with
      | row own cv k' l' =>
        rw [ec] at h
        cases own with
        | false => simp [Rd.run] at h
        | true =>
          dsimp only at h
          have hq := Rd.run_bind h; clear h; obtain ⟨l, h1, h⟩ := hq
          replace h1 := castRow_inv (Rd.run_of h1)
          simp [Rd.run] at h; obtain ⟨rfl, rfl⟩ := h
          injection h1 with q1 q2; subst q1; cases q2
          simp only [Mat, MatS, ec] at hm
          have hv := hm.2.1 trivial
          have hrep := hS.rep id
          rw [ec] at hrep
          obtain ⟨d, hrep⟩ := hrep
          obtain ⟨A, c, cells, H, d', e1, _, _, e2, e3, e4, e5, e6, e7⟩ := row_news hu hsz hrep
          exact ⟨⟨A, c, cells, H, d', hv.trans e1, e2, e3, e4, e5, e7 rfl, fun b hb => ⟨id, by simp, e6 b hb⟩⟩, fun i hi => by simp at hi; subst hi; exact ⟨_, _, _, ec⟩⟩
      | _ => rw [ec] at h; simp [Rd.run] at h
    · simp [Rd.run] at h
  | false =>
    rw [hn] at h
    simp only [cond_false] at h
    have hq := Rd.run_bind h; clear h; obtain ⟨r, h1, h⟩ := hq
    have hq := Rd.run_bind h; clear h; obtain ⟨l, h2, h⟩ := hq
    replace h2 := castRow_inv (Rd.run_of h2)
    simp [Rd.run] at h; obtain ⟨rfl, rfl⟩ := h
    subst h2
    refine ⟨?_, fun i hi => by simp at hi⟩
    unfold rowSV at h1
    split at h1
    · simp [Rd.run] at h1; subst h1
      rw [mat_lit] at hm; subst hm
      exact ⟨none, 0, [], [], 0, rfl, by simp, fun _ => rfl, fun _ h => by simp at h, by simp [RepL], by simp, by simp⟩
    · obtain ⟨own, d, G, hrep, _⟩ := slc_rep hu hS h1 hm
      obtain ⟨A, c, cells, H, d', e1, _, _, e2, e3, e4, e5, e6, e7⟩ := row_news hu hsz hrep
      exact ⟨A, c, cells, [], 0, e1, e2, e3, e4, lits_rep e5 (flat_lits hu hn l), by simp, by simp⟩
    · rename_i id ver p off len
      have hq := Rd.run_bind h1; clear h1; obtain ⟨r, h3, h1⟩ := hq
      simp [Rd.run] at h1
      obtain ⟨k', lr⟩ := r
      dsimp only at h1
      obtain ⟨q1, q2⟩ := h1
      subst q1
      cases q2
      obtain ⟨own, cv, k'', ll, ec, hf, hve⟩ := getRow_inv h3
      simp only [Mat, MatW, ec] at hm
      obtain ⟨_, m2, m3⟩ := hm
      obtain ⟨r1, v1, A1, cap, hs, q1, q2, q3, q4, A', q5, q6⟩ := m3 hve
      have hs2 := hs.2
      rw [hf] at hs2; injection hs2 with hs2; subst hs2
      have hrep := hS.rep id
      rw [ec] at hrep
      obtain ⟨d, hrep⟩ := hrep
      obtain ⟨rr, d', F1, g1, g2, g3⟩ := hs.1.rep hu hrep
      rw [hs.2] at g1; injection g1 with g1; subst g1
      dsimp only at g2 q1 q4 q6
      obtain ⟨A, c, cells, H, d'', e1, ec1, ec2, e2, e3, e4, e5, e6, e7⟩ := row_news hu hsz g2
      rw [q1] at e1; injection e1 with e1a e1b e1c; subst e1a e1c
      have hl2 : ((lr.drop off.toNat).take len.toNat).length = len.toNat := by simp; omega
      have hsplit : lr.flatMap (U.enc k') = (lr.take off.toNat).flatMap (U.enc k') ++ (((lr.drop off.toNat).take len.toNat).flatMap (U.enc k') ++ ((lr.drop off.toNat).drop len.toNat).flatMap (U.enc k')) := by
        rw [← List.flatMap_append, List.take_append_drop, ← List.flatMap_append, List.take_append_drop]
      rw [hsplit] at e5
      obtain ⟨F2, F3, s1, s2, _⟩ := e5.split
      obtain ⟨F4, F5, s3, s4, _⟩ := s2.split
      have hlen1 : ((lr.take off.toNat).flatMap (U.enc k')).length = off.toNat * U.sz k' := by rw [flat_len hu, List.length_take]; congr 1; omega
      rw [hlen1] at s3
      refine ⟨A', cap - off.toNat, _, [], 0, by rw [hl2]; exact q5, ?_, fun hA => ?_, fun ad hA j u hj => ?_, lits_rep s3 (flat_lits hu hn _), by simp, by simp⟩
      · rw [s3.len, flat_len hu]
      · rw [hl2]
        by_cases h0 : off.toNat < cap
        · have := q6 h0
          rw [hA] at this
          cases A1 with
          | none => have := e3 rfl; omega
          | some z => simp at this
        · omega
      · have hj' : j < len.toNat * U.sz k' := by
          have h2 : j < (List.take (List.flatMap (U.enc k') (List.take len.toNat (List.drop off.toNat lr))).length (List.drop (off.toNat * U.sz k') cells)).length := by
            rcases Nat.lt_or_ge j (List.take (List.flatMap (U.enc k') (List.take len.toNat (List.drop off.toNat lr))).length (List.drop (off.toNat * U.sz k') cells)).length with h | h
            · exact h
            · rw [List.getElem?_eq_none h] at hj; simp at hj
          rw [s3.len, flat_len hu, hl2] at h2
          exact h2
        have h0 : off.toNat < cap := by
          rcases Nat.eq_zero_or_pos len.toNat with h | h
          · rw [h] at hj'; simp at hj'
          · omega
        have hq := q6 h0
        rw [hA] at hq
        cases A1 with
        | none => simp at hq
        | some z =>
          simp at hq; subst hq
          rw [add_add]
          refine e4 z rfl _ u ?_
          rw [List.getElem?_take] at hj
          split at hj
          · rw [List.getElem?_drop] at hj; exact hj
          · simp at hj
    · simp [Rd.run] at h1

theorem run_append_none {t ty e : TypeId} {i : TypeInfo} (ht : P.underlying t = some (.slice e)) (hi : P.info? e = some i) {A : Option Addr} {n cap c : Nat} (hc : n ≤ cap) :
    (Builtin.append_ #[t, t] ty #[.slice A n cap, .slice none 0 c]).run P w = .ok (.slice A n cap) w := by
  cases A <;> simp [Builtin.append_, run_underlying ht, sizeOf, typeInfo, hi, Builtin.lenOf, Builtin.firstCells, hc, storeCells]

theorem rep_one {d : Nat} : ∀ {vs : List Value} {ts : List (T U.El)} {G : List Nat}, RepL (RepT true d w) vs ts G → (∀ t ∈ ts, ∀ v, t = .lit v → v.oneCell' = true) → ∀ u ∈ vs, u.oneCell' = true
  | [], _, _, _, _ => by simp
  | _ :: _, [], _, h, _ => h.elim
  | v :: vs, t :: ts, G, ⟨F1, F2, h1, h2, e⟩, ht => by
    intro u hu
    rcases List.mem_cons.1 hu with rfl | hu
    · cases t with
      | lit x =>
        have := ht (.lit x) (by simp) x rfl
        have h3 : u = x := by cases d <;> exact h1.1
        rw [h3]; exact this
      | row k l => obtain ⟨A, cap, e, _⟩ := h1.row_slice; rw [e]; rfl
    · exact rep_one h2 (fun t h => ht t (by simp [h])) u hu

/-- What append adds, and that it does. -/
def AppOk (U : Uni) (P : Program) (w : World) (F : Nat → List Nat) (t t' ty : TypeId) (k : Nat) (vx : Value) (l2 : List (U.El k)) (ids : List Nat) : Prop :=
  ∃ news G d, RepL (RepT true d w) news (l2.flatMap (U.enc k)) G ∧ G.Nodup ∧ (∀ b ∈ G, ∃ m ∈ ids, b ∈ F m) ∧ ∀ v n cells, OwnR w (U.ty k) (U.sz k) v n cells → n + l2.length ≤ most →
    ∃ v' w', (Builtin.append_ #[t, t'] ty #[v, vx]).run P w = .ok v' w' ∧ OwnR w' (U.ty k) (U.sz k) v' (n + l2.length) (cells ++ news) ∧ w.grownBy w' v.ownBlock ∧ (v'.ownBlock = v.ownBlock ∨ v'.ownBlock = some w.heap.size)

theorem AddOk.app (hT : TabOk P U tab) (hu : UniOk U) {t ty : TypeId} {k : Nat} (hty : tab.ty t = .slice k) {vx : Value} {l2 : List (U.El k)} {ids : List Nat} (hx : AddOk U w F k vx l2 ids) : AppOk U P w F t t ty k vx l2 ids := by
  obtain ⟨hun, inf, zv, hin, hz, hisz, hzs, hpos, hby, _⟩ := hT.slice t k hty
  obtain ⟨A, c, news, G, d2, rfl, hnl, hnone, hcells, hR, hnd, hG⟩ := hx
  refine ⟨news, G, d2, hR, hnd, hG, fun v n cells hown hlen => ?_⟩
  have hflat : ∀ t ∈ l2.flatMap (U.enc k), ∀ v, t = .lit v → v.oneCell' = true := fun t ht v e => by
    subst e
    obtain ⟨x, _, h⟩ := List.mem_flatMap.1 ht
    exact hu.one k x v h
  have hmost : n + l2.length ≤ 274877906944 := hlen
  cases A with
  | none =>
    have h0 := hnone rfl
    have hn0 : news = [] := List.eq_nil_of_length_eq_zero (by rw [hnl, h0]; simp)
    have hrs := RowAt.slice (own := true) (w := w) (e := U.ty k) (sz := U.sz k) (v := v) (n := n) (cells := cells) (B := ownB v) ⟨hown, rfl⟩
    obtain ⟨A2, cap, e1, hc, _⟩ := hrs
    refine ⟨v, w, ?_, by rw [h0, hn0]; simpa using hown, ⟨rfl, rfl, rfl, Nat.le_refl _, fun _ _ _ => rfl⟩, .inl rfl⟩
    rw [e1, h0]
    exact run_append_none hun hin hc
  | some ad =>
    exact run_append_ownR (P := P) w t ty (U.ty k) inf zv (U.sz k) inf.bytes hun hin hz hisz rfl hzs hpos v n cells hown ad l2.length c news hnl (hcells ad rfl) (rep_one hR hflat) (by unfold maxLen; omega)
      (by have h1 : (n + l2.length) * inf.bytes ≤ 274877906944 * 512 := Nat.mul_le_mul hmost hby
          omega)

theorem rowStr_rep (hu : UniOk U) {k : Nat} (hb : U.byt k = true) (s : ByteArray) : RepL (RepT true 0 w) (Lib.strCells s) ((rowStr (U := U) k s).flatMap (U.enc k)) [] := by
  unfold Lib.strCells rowStr
  generalize s.data.toList = l
  induction l with
  | nil => simp [RepL]
  | cons b l ih =>
    obtain ⟨x, hx⟩ := hu.byd k hb b.toNat
    have he := hu.dec k _ _ hx
    simp only [List.map_cons, List.flatMap_cons, hx, Option.getD_some, he, List.cons_append, List.nil_append]
    exact ⟨[], [], ⟨rfl, rfl⟩, ih, rfl⟩
theorem rowStr_len {k : Nat} (s : ByteArray) : (rowStr (U := U) k s).length = s.size := by
  unfold rowStr
  rw [List.length_map, Array.length_toList]; rfl
theorem byt_size (hu : UniOk U) {k : Nat} (hb : U.byt k = true) : U.sz k = 1 := by
  obtain ⟨n, e⟩ := hu.byt k hb (U.dfl k)
  rw [← hu.len k (U.dfl k), e]; rfl

theorem strApp (hT : TabOk P U tab) (hu : UniOk U) {t t' ty : TypeId} {k : Nat} (hty : tab.ty t = .slice k) (hty' : tab.ty t' = .str) (hb : U.byt k = true) (s : ByteArray) : AppOk U P w F t t' ty k (.string s) (rowStr k s) [] := by
  obtain ⟨hun, inf, zv, hin, hz, hisz, hzs, hpos, hby, _⟩ := hT.slice t k hty
  have h1 := byt_size hu hb
  refine ⟨Lib.strCells s, [], 0, rowStr_rep hu hb s, List.nodup_nil, fun b hb => by simp at hb, fun v n cells hown hlen => ?_⟩
  rw [rowStr_len] at hlen ⊢
  have hmost : n + s.size ≤ 274877906944 := hlen
  rw [h1] at hown hzs hisz ⊢
  exact run_append_ownR_str (P := P) w t t' ty (U.ty k) inf zv inf.bytes hun (hT.str t' hty') hin hz hisz rfl hzs v n cells hown s (by unfold maxLen; omega)
    (by have h1 : (n + s.size) * inf.bytes ≤ 274877906944 * 512 := Nat.mul_le_mul hmost hby
        omega)

theorem addedB_ok (hT : TabOk P U tab) (hu : UniOk U) (hS : Sat w0 M N s.slot s.chunk ρ F a w) {t t' ty : TypeId} {k : Nat} (hty : tab.ty t = .slice k) {x : SV} {vx : Value} {l2 : List (U.El k)} {ids : List Nat} (h : (addedB (U := U) tab k t t' x).run s = some (l2, ids)) (hm : Mat w ρ s.chunk x vx) :
    AppOk U P w F t t' ty k vx l2 ids ∧ Mine s ids := by
  have hpos : 0 < U.sz k := by obtain ⟨_, _, _, _, _, _, _, hp, _⟩ := hT.slice t k hty; exact hp
  unfold addedB at h
  cases htt : Nat.beq t t' with
  | true =>
    rw [htt] at h
    have := Nat.eq_of_beq_eq_true htt
    subst this
    obtain ⟨h1, h2⟩ := added_ok hu hS hpos (l2 := l2) (ids := ids) h hm
    exact ⟨h1.app hT hu hty, h2⟩
  | false =>
    rw [htt] at h
    dsimp only [cond_false] at h
    split at h
    · rename_i b hst
      cases hb : U.byt k with
      | false => rw [hb] at h; simp [Rd.run] at h
      | true =>
        rw [hb] at h
        simp [Rd.run] at h; obtain ⟨rfl, rfl⟩ := h
        rw [mat_lit] at hm; subst hm
        exact ⟨strApp hT hu hty hst hb b, fun i hi => by simp at hi⟩
    · simp [Rd.run] at h

/-- Append, on a row that is owned. -/
theorem append_core (hT : TabOk P U tab) (hu : UniOk U) (hfr : Fr w0 M.bs w) {t t' ty : TypeId} {k : Nat} (hty : tab.ty t = .slice k) {d : Nat} {v vx : Value} {l l2 : List (U.El k)} {FB : List Nat} {ids : List Nat} (hb : RepT true d w v (.row k l) FB) (hx : AppOk U P w F t t' ty k vx l2 ids)
    (hdis : ∀ m ∈ ids, ∀ b ∈ F m, b ∉ FB) (hlt : ∀ m ∈ ids, ∀ b ∈ F m, b < w.heap.size) (hM : ∀ b ∈ FB, b ∈ M.bs ∨ w0.heap.size ≤ b) (hlen : l.length + l2.length ≤ most) :
    ∃ v' w' FN, (Builtin.append_ #[t, t'] ty #[v, vx]).run P w = .ok v' w' ∧ (∃ d, RepT true d w' v' (.row k (l ++ l2)) FN) ∧ Fr w0 M.bs w' ∧ w.heap.size ≤ w'.heap.size ∧ (∀ b, b < w.heap.size → b ∉ ownB v → w'.heap[b]? = w.heap[b]?) ∧
      (∀ b ∈ FN, (w.heap.size ≤ b ∧ b < w'.heap.size) ∨ b ∈ FB ∨ ∃ m ∈ ids, b ∈ F m) := by
  obtain ⟨news, G, d2, hR, hnd, hG, happ⟩ := hx
  cases d with
  | zero => exact hb.elim
  | succ d =>
    obtain ⟨cells, B, GB, hrow, hRB, e, hn⟩ := hb
    have hn := hn rfl
    obtain ⟨hown, rfl⟩ := hrow
    have hltB : ∀ b ∈ FB, b < w.heap.size := RepT.lt (own := true) (w := w) (v := v) (d := d + 1) (t := .row k l) ⟨cells, ownB v, GB, ⟨hown, rfl⟩, hRB, e, fun _ => hn⟩
    have hGB : ∀ b ∈ GB, b ∉ ownB v := fun b hb hb' => by
      subst e
      exact (List.nodup_append.1 hn).2.2 b hb' b hb rfl
    have hGv : ∀ b ∈ G, b ∉ FB := fun b hb => by obtain ⟨m, hm, hb⟩ := hG b hb; exact hdis m hm b hb
    have hGlt : ∀ b ∈ G, b < w.heap.size := fun b hb => by obtain ⟨m, hm, hb⟩ := hG b hb; exact hlt m hm b hb
    obtain ⟨v', w', hrun, hown', hgr, hat⟩ := happ v l.length cells hown hlen
    have hown_eq : ∀ u : Value, ownB u = u.ownBlock.toList := fun u => by cases u <;> first | rfl | (rename_i x _ _; cases x <;> rfl)
    have hag : ∀ b, b < w.heap.size → b ∉ ownB v → w'.heap[b]? = w.heap[b]? := fun b hb hb' => hgr.block b hb (fun e => hb' (by rw [hown_eq, ← e]; simp))
    have hv'ne : ∀ b ∈ ownB v', (w.heap.size ≤ b ∧ b < w'.heap.size) ∨ b ∈ ownB v := fun b hb => by
      rw [hown_eq] at hb ⊢
      rcases hat with h | h
      · rw [h] at hb; exact .inr hb
      · have hb2 := hb
        rw [h] at hb; simp at hb; subst hb
        refine .inl ⟨Nat.le_refl _, ?_⟩
        have := RowAt.lt (own := true) (w := w') (e := U.ty k) (sz := U.sz k) (v := v') (n := l.length + l2.length) (cells := cells ++ news) (B := ownB v') ⟨hown', rfl⟩ w.heap.size (by rw [hown_eq]; exact hb2)
        exact this
    refine ⟨v', w', ownB v' ++ (GB ++ G), hrun, ⟨max d d2 + 1, cells ++ news, ownB v', GB ++ G, ⟨by rw [List.length_append]; exact hown', rfl⟩, ?_, rfl, fun _ => ?_⟩, ?_, hgr.size, hag, fun b hb => ?_⟩
    · rw [List.flatMap_append]
      refine RepL.join (hRB.imp fun v t H h hb => (h.mono (by omega)).frame fun b hx => hag b (hltB b (by subst e; simp [hb b hx])) (hGB b (hb b hx))) (hR.imp fun v t H h hb => (h.mono (by omega)).frame fun b hx => hag b (hGlt b (hb b hx)) (fun hv => hGv b (hb b hx) (by subst e; simp [hv])))
    · subst e
      rw [List.nodup_append] at hn
      rw [List.nodup_append, List.nodup_append]
      refine ⟨?_, ⟨hn.2.1, hnd, fun x hx y hy e => ?_⟩, fun x hx y hy e => ?_⟩
      · rw [hown_eq]; cases v'.ownBlock <;> simp
      · subst e; exact hGv x hy (by simp [hx])
      · subst e
        rcases hv'ne x hx with ⟨h1, _⟩ | h1
        · rcases List.mem_append.1 hy with h | h
          · have := hltB x (by simp [h]); omega
          · have := hGlt x h; omega
        · rcases List.mem_append.1 hy with h | h
          · exact hGB x h h1
          · exact hGv x h (by simp [h1])
    · refine ⟨hgr.os.trans hfr.os, hgr.tape.trans hfr.tape, hgr.output.trans hfr.output, Nat.le_trans hfr.size hgr.size, fun b hb hbM => ?_⟩
      rw [hag b (Nat.lt_of_lt_of_le hb hfr.size) (fun h => ?_)]
      · exact hfr.block b hb hbM
      · rcases hM b (by subst e; simp [h]) with h | h
        · exact hbM h
        · omega
    · rcases List.mem_append.1 hb with h | h
      · rcases hv'ne b h with h | h
        · exact .inl h
        · exact .inr (.inl (by subst e; simp [h]))
      · rcases List.mem_append.1 h with h | h
        · exact .inr (.inl (by subst e; simp [h]))
        · exact .inr (.inr (hG b h))

end
end Go.Proofs.YtchohkelpjfpcaaDoor.AX
