/-
  A small symbolic machine over the model: plain data types, symbolic values and blocks, the operations read as programs over a symbolic state.
  No condition: definitions alone.
-/
import Derived.Calls
import Derived.Orders
import Derived.Deep.LoopGhost
import Derived.Below
import Derived.KernelRfl
namespace Go.Proofs.Ytmflfpedmbfhkaa.Sym
open Go
set_option linter.unusedVariables false
set_option linter.unusedSimpArgs false

structure Vec where
  X : Int
  Y : Int
structure Shape where
  Kind : Int
  Wide : Int
  High : Int
structure Box where
  Low : Vec
  High : Vec
structure Item where
  Id : Int
  Box : Box
structure Pair where
  A : Int
  B : Int
structure Hit where
  Way : Vec
  Deep : Int
structure Contact where
  A : Int
  B : Int
  Hit : Hit
structure Event where
  Begins : Bool
  Pair : Pair
structure Body where
  Id : Int
  Shape : Shape
  At : Vec
  Drive : Vec
  Mass : Int
  Bounce : Int
  Rub : Int
  Quiet : Int

/-- Kinds of elements of lists. -/
inductive Ty where
  | int | byte | bool | vec | item | pair | hit | contact | event | body
  deriving DecidableEq

/-- Symbolic values. Names of blocks are numbers; in 'ptr j e o': block j, element e, cell o of it. -/
inductive SV where
  | int (k : IntKind) (n : Int)
  | bool (b : Bool)
  | nilp
  | ptr (j e o : Nat)
  | vec (j : Nat)
  | sl (j lo len : Nat)
  | nilsl
  | fn (f : Nat) (cap : Option Nat)
  | agg (cs : List SV)
  | tup (vs : List SV)
  | any

@[reducible] def i64 (n : Int) : SV := .int .i64 n

@[reducible] def Ty.El : Ty → Type
  | .int => Int
  | .byte => Int
  | .bool => Bool
  | .vec => Vec
  | .item => Item
  | .pair => Pair
  | .hit => Hit
  | .contact => Contact
  | .event => Event
  | .body => Body

def Ty.sz : Ty → Nat
  | .int => 1
  | .byte => 1
  | .bool => 1
  | .vec => 2
  | .item => 5
  | .pair => 2
  | .hit => 3
  | .contact => 5
  | .event => 3
  | .body => 12

def Ty.enc : (T : Ty) → T.El → List SV
  | .int, n => [.int .i64 n]
  | .byte, n => [.int .u8 n]
  | .bool, b => [.bool b]
  | .vec, v => [.int .i64 v.X, .int .i64 v.Y]
  | .item, x => [.int .i64 x.Id, .int .i64 x.Box.Low.X, .int .i64 x.Box.Low.Y, .int .i64 x.Box.High.X, .int .i64 x.Box.High.Y]
  | .pair, p => [.int .i64 p.A, .int .i64 p.B]
  | .hit, h => [.int .i64 h.Way.X, .int .i64 h.Way.Y, .int .i64 h.Deep]
  | .contact, c => [.int .i64 c.A, .int .i64 c.B, .int .i64 c.Hit.Way.X, .int .i64 c.Hit.Way.Y, .int .i64 c.Hit.Deep]
  | .event, e => [.bool e.Begins, .int .i64 e.Pair.A, .int .i64 e.Pair.B]
  | .body, b => [.int .i64 b.Id, .int .i64 b.Shape.Kind, .int .i64 b.Shape.Wide, .int .i64 b.Shape.High, .int .i64 b.At.X, .int .i64 b.At.Y,
      .int .i64 b.Drive.X, .int .i64 b.Drive.Y, .int .i64 b.Mass, .int .i64 b.Bounce, .int .i64 b.Rub, .int .i64 b.Quiet]

def Ty.dec : (T : Ty) → List SV → Option T.El
  | .int, [.int .i64 n] => some n
  | .byte, [.int .u8 n] => some n
  | .bool, [.bool b] => some b
  | .vec, [.int .i64 x, .int .i64 y] => some ⟨x, y⟩
  | .item, [.int .i64 i, .int .i64 a, .int .i64 b, .int .i64 c, .int .i64 d] => some ⟨i, ⟨⟨a, b⟩, ⟨c, d⟩⟩⟩
  | .pair, [.int .i64 a, .int .i64 b] => some ⟨a, b⟩
  | .hit, [.int .i64 a, .int .i64 b, .int .i64 c] => some ⟨⟨a, b⟩, c⟩
  | .contact, [.int .i64 a, .int .i64 b, .int .i64 c, .int .i64 d, .int .i64 e] => some ⟨a, b, ⟨⟨c, d⟩, e⟩⟩
  | .event, [.bool a, .int .i64 b, .int .i64 c] => some ⟨a, ⟨b, c⟩⟩
  | .body, [.int .i64 a, .int .i64 b, .int .i64 c, .int .i64 d, .int .i64 e, .int .i64 f, .int .i64 g, .int .i64 h, .int .i64 i, .int .i64 j, .int .i64 k, .int .i64 l] =>
      some ⟨a, ⟨b, c, d⟩, ⟨e, f⟩, ⟨g, h⟩, i, j, k, l⟩
  | _, _ => none

def Ty.dft : (T : Ty) → T.El
  | .int => (0 : Int)
  | .byte => (0 : Int)
  | .bool => false
  | .vec => ⟨0, 0⟩
  | .item => ⟨0, ⟨⟨0, 0⟩, ⟨0, 0⟩⟩⟩
  | .pair => ⟨0, 0⟩
  | .hit => ⟨⟨0, 0⟩, 0⟩
  | .contact => ⟨0, 0, ⟨⟨0, 0⟩, 0⟩⟩
  | .event => ⟨false, ⟨0, 0⟩⟩
  | .body => ⟨0, ⟨0, 0, 0⟩, ⟨0, 0⟩, ⟨0, 0⟩, 0, 0, 0, 0⟩

/-- The element of a list at a place; beyond its end the zero. -/
def Ty.ix (T : Ty) (xs : List T.El) (e : Nat) : T.El := xs.getD e T.dft

inductive Blk where
  | box (cs : List SV)
  | vec (T : Ty) (xs : List T.El)
  | dead

/-- A block, and whether it may be written. -/
abbrev Ent := Bool × Blk

/-- Slots and names, what was written last first. -/
structure St where
  T : List (Nat × SV)
  H : List (Nat × Ent)

def look {α : Type} (l : List (Nat × α)) (d : Nat) : Option α :=
  match l with
  | [] => none
  | (n, x) :: r => match Nat.beq n d with
    | true => some x
    | false => look r d

def St.slot (s : St) (d : Nat) : SV := match look s.T d with
  | some v => v
  | none => .any
def St.blk (s : St) (n : Nat) : Option Ent := look s.H n

/-- Programs that only read a symbolic state. -/
inductive RM (α : Type) where
  | ret (a : α)
  | fail
  | slot (d : Nat) (k : SV → RM α)
  | blk (n : Nat) (k : Option Ent → RM α)

/-- What an operation does: the value for its slot, and the names that it writes. 'ok': what must hold. -/
structure Delta where
  ok : Option Prop
  v : SV
  hs : List (Nat × Ent)

/-- What is known of a type: its cells, whether it is laid out in cells of its own, its fields (offset and size), the element type of a slice, the kind of its elements, its zero cells, the bytes of a value. -/
structure TI where
  size : Nat
  agg : Bool
  fields : List (Nat × Nat)
  elem : Nat
  ty : Option Ty
  kind : Option IntKind
  zero : List SV
  bytes : Nat
  flat : Bool
  cts : List (Option Ty)

/-- One value: its cells. -/
def SV.cells : SV → List SV
  | .agg cs => cs
  | v => [v]

def cst1 : Value → SV
  | .int k n => .int k n
  | .bool b => .bool b
  | .slice none 0 0 => .nilsl
  | .pointer none => .nilp
  | _ => .any
def cst : Value → SV
  | .agg cs => .agg (cs.toList.map cst1)
  | v => cst1 v

variable {α : Type}

def opv (x : Operand) (k : SV → RM α) : RM α :=
  match x with
  | .tmp t => .slot t k
  | .const v => k (cst v)
  | .func f => k (.fn f none)
  | .global _ => .fail

def opvs (xs : List Operand) (k : List SV → RM α) : RM α :=
  match xs with
  | [] => k []
  | x :: r => opv x fun v => opvs r fun vs => k (v :: vs)

/-- Each is one cell of which something is known. -/
def solid : List SV → Bool
  | [] => true
  | .any :: _ => false
  | .agg _ :: _ => false
  | .tup _ :: _ => false
  | _ :: r => solid r

def splice (cs : List SV) (o : Nat) (xs : List SV) : List SV := cs.take o ++ xs ++ cs.drop (o + xs.length)

def ret1 (v : SV) : RM Delta := .ret ⟨none, v, []⟩
def retc (p : Prop) (v : SV) : RM Delta := .ret ⟨some p, v, []⟩

/-- The name of a block that an operation with slot d makes. -/
def nm (d : Nat) : Nat := 64 + 8 * d

def fresh (n : Nat) (k : RM α) : RM α := .blk n fun
  | none => k
  | some _ => .fail

def eqCells : List SV → List SV → Option Bool
  | [], [] => some true
  | .int _ a :: r, .int _ b :: s => match r, s with
    | [], [] => some (a == b)
    | _, _ => (eqCells r s).map fun t => (a == b) && t
  | .bool a :: r, .bool b :: s => match r, s with
    | [], [] => some (a == b)
    | _, _ => (eqCells r s).map fun t => (a == b) && t
  | _, _ => none

def isCst : Operand → Bool
  | .const _ => true
  | _ => false

def arith (op : BinOp) (cy : Bool) (k : IntKind) (a b : Int) : RM Delta :=
  match op with
  | .add => ret1 (.int k (k.wrap (a + b)))
  | .sub => ret1 (.int k (k.wrap (a - b)))
  | .mul => ret1 (.int k (k.wrap (a * b)))
  | .quo => match cy with
    | true => (match b == 0 with
      | true => .fail
      | false => ret1 (.int k (k.wrap (a.tdiv b))))
    | false => retc (b ≠ 0) (.int k (k.wrap (a.tdiv b)))
  | .rem => match cy with
    | true => (match b == 0 with
      | true => .fail
      | false => ret1 (.int k (a.tmod b)))
    | false => retc (b ≠ 0) (.int k (a.tmod b))
  | .xor => ret1 (.int k (k.wrap (BitVec.ofInt k.bits a ^^^ BitVec.ofInt k.bits b).toNat))
  | .shr => (match cy, b == 1 with
    | true, true => ret1 (.int k (a.fdiv 2))
    | _, _ => .fail)
  | .eql => ret1 (.bool (a == b))
  | .neq => ret1 (.bool (a != b))
  | .lss => ret1 (.bool (decide (a < b)))
  | .leq => ret1 (.bool (decide (a ≤ b)))
  | .gtr => ret1 (.bool (decide (a > b)))
  | .geq => ret1 (.bool (decide (a ≥ b)))
  | _ => .fail

def kindEq (j k : IntKind) : Bool := match j, k with
  | .i64, .i64 => true
  | .u8, .u8 => true
  | .i8, .i8 => true
  | .i16, .i16 => true
  | .i32, .i32 => true
  | .u16, .u16 => true
  | .u32, .u32 => true
  | .u64, .u64 => true
  | _, _ => false

/-- The cells are of the kinds of the first list's. -/
def sameKinds : List SV → List SV → Bool
  | [], [] => true
  | .int j _ :: r, .int k _ :: s => match kindEq j k with
    | true => sameKinds r s
    | false => false
  | .bool _ :: r, .bool _ :: s => sameKinds r s
  | _, _ => false

def aggEq (op : BinOp) (flat : Bool) (zero : List SV) (xs ys : List SV) : RM Delta :=
  match flat, sameKinds zero xs, sameKinds zero ys, eqCells xs ys with
  | true, true, true, some b => (match op with
    | .eql => ret1 (.bool b)
    | .neq => ret1 (.bool (!b))
    | _ => .fail)
  | _, _, _, _ => .fail

def bin (op : BinOp) (cy : Bool) (i : TI) (x y : SV) : RM Delta :=
  match x, y with
  | .int k a, .int k' b => match kindEq k k' with
    | true => arith op cy k a b
    | false => .fail
  | .bool a, .bool b => (match i.agg, i.zero with
    | false, [.bool _] => (match op with
      | .eql => ret1 (.bool (a == b))
      | .neq => ret1 (.bool (!(a == b)))
      | _ => .fail)
    | _, _ => .fail)
  | .agg xs, .agg ys => aggEq op i.flat i.zero xs ys
  | _, _ => .fail

def un (op : UnOp) (x : SV) : RM Delta :=
  match op, x with
  | .neg, .int k n => ret1 (.int k (k.wrap (0 - n)))
  | .not, .bool b => ret1 (.bool !b)
  | _, _ => .fail

def shapeOf (agg : Bool) (cs : List SV) : Option SV :=
  match agg, cs with
  | true, cs => some (.agg cs)
  | false, [c] => some c
  | false, _ => none

def retO (v : Option SV) : RM Delta := match v with
  | some v => ret1 v
  | none => .fail

/-- A read of 'n' cells from cell o of element e of a block. -/
def readBlk (b : Option Ent) (e o n : Nat) (agg : Bool) : RM Delta :=
  match b with
  | some (_, .box cs) => match Nat.beq e 0 && Nat.ble (o + n) cs.length with
    | true => retO (shapeOf agg ((cs.drop o).take n))
    | false => .fail
  | some (_, .vec T xs) => match Nat.ble (o + n) T.sz with
    | true => retO (shapeOf agg (((T.enc (T.ix xs e)).drop o).take n))
    | false => .fail
  | _ => .fail

def noSlot : SV := .tup []

/-- A part of a list, written over. -/
def spl {α : Type} (xs : List α) (o : Nat) (ys : List α) : List α := xs.take o ++ ys ++ xs.drop (o + ys.length)

/-- Cells of one element of a list, written. -/
def setC (T : Ty) (xs : List T.El) (e o : Nat) (vs : List SV) : List T.El := match T.dec (splice (T.enc (T.ix xs e)) o vs) with
  | some x => xs.set e x
  | none => xs

/-! Values are brought into their form as they are laid: the kernel reckons by name. -/
def force1 {β : Sort 1} (v : SV) (K : SV → β) : β := match v with
  | .int k n => (match k with
    | .i64 => K (.int .i64 n)
    | .u8 => K (.int .u8 n)
    | k => K (.int k n))
  | .bool b => K (.bool b)
  | .nilp => K .nilp
  | .ptr j e o => K (.ptr j e o)
  | .vec j => K (.vec j)
  | .sl j lo n => K (.sl j lo n)
  | .nilsl => K .nilsl
  | .fn f c => K (.fn f c)
  | .agg cs => K (.agg cs)
  | .tup vs => K (.tup vs)
  | .any => K .any
def forceL {β : Sort 1} (cs : List SV) (K : List SV → β) : β := match cs with
  | [] => K []
  | c :: r => force1 c fun c => forceL r fun r => K (c :: r)
theorem force1_eq {β : Sort 1} (v : SV) (K : SV → β) : force1 v K = K v := by
  cases v <;> first | rfl | (rename_i k n; cases k <;> rfl)
theorem forceL_eq {β : Sort 1} : ∀ (cs : List SV) (K : List SV → β), forceL cs K = K cs
  | [], K => rfl
  | c :: r, K => by rw [forceL, force1_eq, forceL_eq r]

def writeBlk (j : Nat) (b : Option Ent) (e o n : Nat) (vs : List SV) : RM Delta :=
  match b, Nat.beq vs.length n && solid vs with
  | some (true, .box cs), true => (match Nat.beq e 0 && Nat.ble (o + n) cs.length with
    | true => .ret ⟨none, noSlot, [(j, true, .box (splice cs o vs))]⟩
    | false => .fail)
  | some (true, .vec T xs), true => (match Nat.ble (o + n) T.sz, T.dec (splice (T.enc (T.ix xs e)) o vs) with
    | true, some x => (match Nat.beq vs.length T.sz with
      | true => .ret ⟨none, noSlot, [(j, true, .vec T (xs.set e x))]⟩
      | false => forceL vs fun vs => .ret ⟨none, noSlot, [(j, true, .vec T (setC T xs e o vs))]⟩)
    | _, _ => .fail)
  | _, _ => .fail

def alive (j : Nat) (k : RM α) : RM α := .blk j fun
  | some (_, .box _) => k
  | some (_, .vec _ _) => k
  | _ => .fail

def lenOf (v : SV) (k : Nat → RM α) : RM α :=
  match v with
  | .vec j => .blk j fun
    | some (_, .vec _ xs) => k xs.length
    | _ => .fail
  | .sl j _ n => alive j (k n)
  | .nilsl => k 0
  | _ => .fail

/-- The elements of a slice of kind T. -/
def castTo (T : Ty) (U : Ty) (xs : List U.El) : Option (List T.El) :=
  match T, U, xs with
  | .int, .int, xs => some xs
  | .byte, .byte, xs => some xs
  | .bool, .bool, xs => some xs
  | .vec, .vec, xs => some xs
  | .item, .item, xs => some xs
  | .pair, .pair, xs => some xs
  | .hit, .hit, xs => some xs
  | .contact, .contact, xs => some xs
  | .event, .event, xs => some xs
  | .body, .body, xs => some xs
  | _, _, _ => none

def elems (T : Ty) (v : SV) (k : List T.El → RM α) : RM α :=
  match v with
  | .vec j => .blk j fun
    | some (_, .vec U xs) => (match castTo T U xs with
      | some ys => k ys
      | none => .fail)
    | _ => .fail
  | .sl j lo n => .blk j fun
    | some (_, .vec U xs) => (match castTo T U xs with
      | some ys => k ((ys.drop lo).take n)
      | none => .fail)
    | _ => .fail
  | .nilsl => k []
  | _ => .fail

def decAll (T : Ty) : List (List SV) → Option (List T.El)
  | [] => some []
  | c :: r => match T.dec c, decAll T r with
    | some x, some xs => some (x :: xs)
    | _, _ => none

def intOfSV (v : SV) (k : Int → RM α) : RM α := match v with
  | .int _ n => k n
  | _ => .fail

end Go.Proofs.Ytmflfpedmbfhkaa.Sym
