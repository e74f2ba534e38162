/-
  What the rows of this claim stand on, part 1: the machine, the walks, the plain laws, as far as they are used.
  No condition.
-/
import Derived.Calls
import Derived.Orders
import Derived.Deep.LoopGhost
import Derived.Below
import Derived.KernelRfl
import Derived.Laws.StructEq
import Derived.Laws.AppendOwn
import Derived.Laws.OwnMore
import Derived.Laws.MakeOwn
import Derived.Laws.CopyRow
namespace Go.Proofs.YtdhbkcaaijgocaaGreat.Sym
open Go
set_option linter.unusedVariables false
set_option linter.unusedSimpArgs false

structure Vec where
  X : Int
  Y : Int
structure Shape where
  Kind : Int
  Wide : Int
  High : Int
structure Box where
  Low : Vec
  High : Vec
structure Item where
  Id : Int
  Box : Box
structure Pair where
  A : Int
  B : Int
structure Hit where
  Way : Vec
  Deep : Int
structure Contact where
  A : Int
  B : Int
  Hit : Hit
structure Event where
  Begins : Bool
  Pair : Pair
structure Body where
  Id : Int
  Shape : Shape
  At : Vec
  Drive : Vec
  Mass : Int
  Bounce : Int
  Rub : Int
  Quiet : Int

/-- Kinds of elements of lists. -/
inductive Ty where
  | int | byte | bool | vec | item | pair | hit | contact | event | body
  deriving DecidableEq

/-- Symbolic values. Names of blocks are numbers; in 'ptr j e o': block j, element e, cell o of it. -/
inductive SV where
  | int (k : IntKind) (n : Int)
  | bool (b : Bool)
  | nilp
  | ptr (j e o : Nat)
  | vec (j : Nat)
  | sl (j lo len : Nat)
  | nilsl
  | fn (f : Nat) (cap : Option Nat)
  | agg (cs : List SV)
  | tup (vs : List SV)
  | any

@[reducible] def i64 (n : Int) : SV := .int .i64 n

@[reducible] def Ty.El : Ty → Type
  | .int => Int
  | .byte => Int
  | .bool => Bool
  | .vec => Vec
  | .item => Item
  | .pair => Pair
  | .hit => Hit
  | .contact => Contact
  | .event => Event
  | .body => Body

def Ty.sz : Ty → Nat
  | .int => 1
  | .byte => 1
  | .bool => 1
  | .vec => 2
  | .item => 5
  | .pair => 2
  | .hit => 3
  | .contact => 5
  | .event => 3
  | .body => 12

def Ty.enc : (T : Ty) → T.El → List SV
  | .int, n => [.int .i64 n]
  | .byte, n => [.int .u8 n]
  | .bool, b => [.bool b]
  | .vec, v => [.int .i64 v.X, .int .i64 v.Y]
  | .item, x => [.int .i64 x.Id, .int .i64 x.Box.Low.X, .int .i64 x.Box.Low.Y, .int .i64 x.Box.High.X, .int .i64 x.Box.High.Y]
  | .pair, p => [.int .i64 p.A, .int .i64 p.B]
  | .hit, h => [.int .i64 h.Way.X, .int .i64 h.Way.Y, .int .i64 h.Deep]
  | .contact, c => [.int .i64 c.A, .int .i64 c.B, .int .i64 c.Hit.Way.X, .int .i64 c.Hit.Way.Y, .int .i64 c.Hit.Deep]
  | .event, e => [.bool e.Begins, .int .i64 e.Pair.A, .int .i64 e.Pair.B]
  | .body, b => [.int .i64 b.Id, .int .i64 b.Shape.Kind, .int .i64 b.Shape.Wide, .int .i64 b.Shape.High, .int .i64 b.At.X, .int .i64 b.At.Y,
      .int .i64 b.Drive.X, .int .i64 b.Drive.Y, .int .i64 b.Mass, .int .i64 b.Bounce, .int .i64 b.Rub, .int .i64 b.Quiet]

def Ty.dec : (T : Ty) → List SV → Option T.El
  | .int, [.int .i64 n] => some n
  | .byte, [.int .u8 n] => some n
  | .bool, [.bool b] => some b
  | .vec, [.int .i64 x, .int .i64 y] => some ⟨x, y⟩
  | .item, [.int .i64 i, .int .i64 a, .int .i64 b, .int .i64 c, .int .i64 d] => some ⟨i, ⟨⟨a, b⟩, ⟨c, d⟩⟩⟩
  | .pair, [.int .i64 a, .int .i64 b] => some ⟨a, b⟩
  | .hit, [.int .i64 a, .int .i64 b, .int .i64 c] => some ⟨⟨a, b⟩, c⟩
  | .contact, [.int .i64 a, .int .i64 b, .int .i64 c, .int .i64 d, .int .i64 e] => some ⟨a, b, ⟨⟨c, d⟩, e⟩⟩
  | .event, [.bool a, .int .i64 b, .int .i64 c] => some ⟨a, ⟨b, c⟩⟩
  | .body, [.int .i64 a, .int .i64 b, .int .i64 c, .int .i64 d, .int .i64 e, .int .i64 f, .int .i64 g, .int .i64 h, .int .i64 i, .int .i64 j, .int .i64 k, .int .i64 l] =>
      some ⟨a, ⟨b, c, d⟩, ⟨e, f⟩, ⟨g, h⟩, i, j, k, l⟩
  | _, _ => none

def Ty.dft : (T : Ty) → T.El
  | .int => (0 : Int)
  | .byte => (0 : Int)
  | .bool => false
  | .vec => ⟨0, 0⟩
  | .item => ⟨0, ⟨⟨0, 0⟩, ⟨0, 0⟩⟩⟩
  | .pair => ⟨0, 0⟩
  | .hit => ⟨⟨0, 0⟩, 0⟩
  | .contact => ⟨0, 0, ⟨⟨0, 0⟩, 0⟩⟩
  | .event => ⟨false, ⟨0, 0⟩⟩
  | .body => ⟨0, ⟨0, 0, 0⟩, ⟨0, 0⟩, ⟨0, 0⟩, 0, 0, 0, 0⟩

/-- The element of a list at a place; beyond its end the zero. -/
def Ty.ix (T : Ty) (xs : List T.El) (e : Nat) : T.El := xs.getD e T.dft

inductive Blk where
  | box (cs : List SV)
  | vec (T : Ty) (xs : List T.El)
  | dead

/-- A block, and whether it may be written. -/
abbrev Ent := Bool × Blk

/-- Slots and names, what was written last first. -/
structure St where
  T : List (Nat × SV)
  H : List (Nat × Ent)

def look {α : Type} (l : List (Nat × α)) (d : Nat) : Option α :=
  match l with
  | [] => none
  | (n, x) :: r => match Nat.beq n d with
    | true => some x
    | false => look r d

def St.slot (s : St) (d : Nat) : SV := match look s.T d with
  | some v => v
  | none => .any
def St.blk (s : St) (n : Nat) : Option Ent := look s.H n

/-- Programs that only read a symbolic state. -/
inductive RM (α : Type) where
  | ret (a : α)
  | fail
  | slot (d : Nat) (k : SV → RM α)
  | blk (n : Nat) (k : Option Ent → RM α)

/-- What an operation does: the value for its slot, and the names that it writes. 'ok': what must hold. -/
structure Delta where
  ok : Option Prop
  v : SV
  hs : List (Nat × Ent)

/-- What is known of a type: its cells, whether it is laid out in cells of its own, its fields (offset and size), the element type of a slice, the kind of its elements, its zero cells, the bytes of a value. -/
structure TI where
  size : Nat
  agg : Bool
  fields : List (Nat × Nat)
  elem : Nat
  ty : Option Ty
  kind : Option IntKind
  zero : List SV
  bytes : Nat
  flat : Bool
  cts : List (Option Ty)

/-- One value: its cells. -/
def SV.cells : SV → List SV
  | .agg cs => cs
  | v => [v]

def cst1 : Value → SV
  | .int k n => .int k n
  | .bool b => .bool b
  | .slice none 0 0 => .nilsl
  | .pointer none => .nilp
  | _ => .any
def cst : Value → SV
  | .agg cs => .agg (cs.toList.map cst1)
  | v => cst1 v

variable {α : Type}

def opv (x : Operand) (k : SV → RM α) : RM α :=
  match x with
  | .tmp t => .slot t k
  | .const v => k (cst v)
  | .func f => k (.fn f none)
  | .global _ => .fail

def opvs (xs : List Operand) (k : List SV → RM α) : RM α :=
  match xs with
  | [] => k []
  | x :: r => opv x fun v => opvs r fun vs => k (v :: vs)

/-- Each is one cell of which something is known. -/
def solid : List SV → Bool
  | [] => true
  | .any :: _ => false
  | .agg _ :: _ => false
  | .tup _ :: _ => false
  | _ :: r => solid r

def splice (cs : List SV) (o : Nat) (xs : List SV) : List SV := cs.take o ++ xs ++ cs.drop (o + xs.length)

def ret1 (v : SV) : RM Delta := .ret ⟨none, v, []⟩
def retc (p : Prop) (v : SV) : RM Delta := .ret ⟨some p, v, []⟩

/-- The name of a block that an operation with slot d makes. -/
def nm (d : Nat) : Nat := 64 + 8 * d

def fresh (n : Nat) (k : RM α) : RM α := .blk n fun
  | none => k
  | some _ => .fail

def eqCells : List SV → List SV → Option Bool
  | [], [] => some true
  | .int _ a :: r, .int _ b :: s => match r, s with
    | [], [] => some (a == b)
    | _, _ => (eqCells r s).map fun t => (a == b) && t
  | .bool a :: r, .bool b :: s => match r, s with
    | [], [] => some (a == b)
    | _, _ => (eqCells r s).map fun t => (a == b) && t
  | _, _ => none

def isCst : Operand → Bool
  | .const _ => true
  | _ => false

def arith (op : BinOp) (cy : Bool) (k : IntKind) (a b : Int) : RM Delta :=
  match op with
  | .add => ret1 (.int k (k.wrap (a + b)))
  | .sub => ret1 (.int k (k.wrap (a - b)))
  | .mul => ret1 (.int k (k.wrap (a * b)))
  | .quo => match cy with
    | true => (match b == 0 with
      | true => .fail
      | false => ret1 (.int k (k.wrap (a.tdiv b))))
    | false => retc (b ≠ 0) (.int k (k.wrap (a.tdiv b)))
  | .rem => match cy with
    | true => (match b == 0 with
      | true => .fail
      | false => ret1 (.int k (a.tmod b)))
    | false => retc (b ≠ 0) (.int k (a.tmod b))
  | .xor => ret1 (.int k (k.wrap (BitVec.ofInt k.bits a ^^^ BitVec.ofInt k.bits b).toNat))
  | .shr => (match cy, b == 1 with
    | true, true => ret1 (.int k (a.fdiv 2))
    | _, _ => .fail)
  | .eql => ret1 (.bool (a == b))
  | .neq => ret1 (.bool (a != b))
  | .lss => ret1 (.bool (decide (a < b)))
  | .leq => ret1 (.bool (decide (a ≤ b)))
  | .gtr => ret1 (.bool (decide (a > b)))
  | .geq => ret1 (.bool (decide (a ≥ b)))
  | _ => .fail

def kindEq (j k : IntKind) : Bool := match j, k with
  | .i64, .i64 => true
  | .u8, .u8 => true
  | .i8, .i8 => true
  | .i16, .i16 => true
  | .i32, .i32 => true
  | .u16, .u16 => true
  | .u32, .u32 => true
  | .u64, .u64 => true
  | _, _ => false

/-- The cells are of the kinds of the first list's. -/
def sameKinds : List SV → List SV → Bool
  | [], [] => true
  | .int j _ :: r, .int k _ :: s => match kindEq j k with
    | true => sameKinds r s
    | false => false
  | .bool _ :: r, .bool _ :: s => sameKinds r s
  | _, _ => false

def aggEq (op : BinOp) (flat : Bool) (zero : List SV) (xs ys : List SV) : RM Delta :=
  match flat, sameKinds zero xs, sameKinds zero ys, eqCells xs ys with
  | true, true, true, some b => (match op with
    | .eql => ret1 (.bool b)
    | .neq => ret1 (.bool (!b))
    | _ => .fail)
  | _, _, _, _ => .fail

def bin (op : BinOp) (cy : Bool) (i : TI) (x y : SV) : RM Delta :=
  match x, y with
  | .int k a, .int k' b => match kindEq k k' with
    | true => arith op cy k a b
    | false => .fail
  | .bool a, .bool b => (match i.agg, i.zero with
    | false, [.bool _] => (match op with
      | .eql => ret1 (.bool (a == b))
      | .neq => ret1 (.bool (!(a == b)))
      | _ => .fail)
    | _, _ => .fail)
  | .agg xs, .agg ys => aggEq op i.flat i.zero xs ys
  | _, _ => .fail

def un (op : UnOp) (x : SV) : RM Delta :=
  match op, x with
  | .neg, .int k n => ret1 (.int k (k.wrap (0 - n)))
  | .not, .bool b => ret1 (.bool !b)
  | _, _ => .fail

def shapeOf (agg : Bool) (cs : List SV) : Option SV :=
  match agg, cs with
  | true, cs => some (.agg cs)
  | false, [c] => some c
  | false, _ => none

def retO (v : Option SV) : RM Delta := match v with
  | some v => ret1 v
  | none => .fail

/-- A read of 'n' cells from cell o of element e of a block. -/
def readBlk (b : Option Ent) (e o n : Nat) (agg : Bool) : RM Delta :=
  match b with
  | some (_, .box cs) => match Nat.beq e 0 && Nat.ble (o + n) cs.length with
    | true => retO (shapeOf agg ((cs.drop o).take n))
    | false => .fail
  | some (_, .vec T xs) => match Nat.ble (o + n) T.sz with
    | true => retO (shapeOf agg (((T.enc (T.ix xs e)).drop o).take n))
    | false => .fail
  | _ => .fail

def noSlot : SV := .tup []

/-- A part of a list, written over. -/
def spl {α : Type} (xs : List α) (o : Nat) (ys : List α) : List α := xs.take o ++ ys ++ xs.drop (o + ys.length)

/-- Cells of one element of a list, written. -/
def setC (T : Ty) (xs : List T.El) (e o : Nat) (vs : List SV) : List T.El := match T.dec (splice (T.enc (T.ix xs e)) o vs) with
  | some x => xs.set e x
  | none => xs

def force1 {β : Sort 1} (v : SV) (K : SV → β) : β := match v with
  | .int k n => (match k with
    | .i64 => K (.int .i64 n)
    | .u8 => K (.int .u8 n)
    | k => K (.int k n))
  | .bool b => K (.bool b)
  | .nilp => K .nilp
  | .ptr j e o => K (.ptr j e o)
  | .vec j => K (.vec j)
  | .sl j lo n => K (.sl j lo n)
  | .nilsl => K .nilsl
  | .fn f c => K (.fn f c)
  | .agg cs => K (.agg cs)
  | .tup vs => K (.tup vs)
  | .any => K .any
def forceL {β : Sort 1} (cs : List SV) (K : List SV → β) : β := match cs with
  | [] => K []
  | c :: r => force1 c fun c => forceL r fun r => K (c :: r)
theorem force1_eq {β : Sort 1} (v : SV) (K : SV → β) : force1 v K = K v := by
  cases v <;> first | rfl | (rename_i k n; cases k <;> rfl)
theorem forceL_eq {β : Sort 1} : ∀ (cs : List SV) (K : List SV → β), forceL cs K = K cs
  | [], K => rfl
  | c :: r, K => by rw [forceL, force1_eq, forceL_eq r]

def writeBlk (j : Nat) (b : Option Ent) (e o n : Nat) (vs : List SV) : RM Delta :=
  match b, Nat.beq vs.length n && solid vs with
  | some (true, .box cs), true => (match Nat.beq e 0 && Nat.ble (o + n) cs.length with
    | true => .ret ⟨none, noSlot, [(j, true, .box (splice cs o vs))]⟩
    | false => .fail)
  | some (true, .vec T xs), true => (match Nat.ble (o + n) T.sz, T.dec (splice (T.enc (T.ix xs e)) o vs) with
    | true, some x => (match Nat.beq vs.length T.sz with
      | true => .ret ⟨none, noSlot, [(j, true, .vec T (xs.set e x))]⟩
      | false => forceL vs fun vs => .ret ⟨none, noSlot, [(j, true, .vec T (setC T xs e o vs))]⟩)
    | _, _ => .fail)
  | _, _ => .fail

def alive (j : Nat) (k : RM α) : RM α := .blk j fun
  | some (_, .box _) => k
  | some (_, .vec _ _) => k
  | _ => .fail

def lenOf (v : SV) (k : Nat → RM α) : RM α :=
  match v with
  | .vec j => .blk j fun
    | some (_, .vec _ xs) => k xs.length
    | _ => .fail
  | .sl j _ n => alive j (k n)
  | .nilsl => k 0
  | _ => .fail

/-- The elements of a slice of kind T. -/
def castTo (T : Ty) (U : Ty) (xs : List U.El) : Option (List T.El) :=
  match T, U, xs with
  | .int, .int, xs => some xs
  | .byte, .byte, xs => some xs
  | .bool, .bool, xs => some xs
  | .vec, .vec, xs => some xs
  | .item, .item, xs => some xs
  | .pair, .pair, xs => some xs
  | .hit, .hit, xs => some xs
  | .contact, .contact, xs => some xs
  | .event, .event, xs => some xs
  | .body, .body, xs => some xs
  | _, _, _ => none

def elems (T : Ty) (v : SV) (k : List T.El → RM α) : RM α :=
  match v with
  | .vec j => .blk j fun
    | some (_, .vec U xs) => (match castTo T U xs with
      | some ys => k ys
      | none => .fail)
    | _ => .fail
  | .sl j lo n => .blk j fun
    | some (_, .vec U xs) => (match castTo T U xs with
      | some ys => k ((ys.drop lo).take n)
      | none => .fail)
    | _ => .fail
  | .nilsl => k []
  | _ => .fail

def decAll (T : Ty) : List (List SV) → Option (List T.El)
  | [] => some []
  | c :: r => match T.dec c, decAll T r with
    | some x, some xs => some (x :: xs)
    | _, _ => none

def intOfSV (v : SV) (k : Int → RM α) : RM α := match v with
  | .int _ n => k n
  | _ => .fail

end Go.Proofs.YtdhbkcaaijgocaaGreat.Sym

namespace Go.Proofs.YtdhbkcaaijgocaaGreat.Sym
open Go
set_option linter.unusedVariables false
set_option linter.unusedSimpArgs false
variable {α : Type}

/-- What a function does: of each argument whether it may write it; the answer for given arguments and blocks: a condition, the result, the blocks behind it (those that came in, then new ones). -/
structure Fs where
  w : List Bool
  ev : List SV → List Ent → Option (Option Prop × SV × List Ent)

abbrev Tab := Nat → Option Fs
abbrev Types := Nat → Option TI

/-- Where a canonical name comes from: nowhere (a nil slice), a whole block of the caller's, or a part of a list of his. -/
inductive Src where
  | nil
  | whole (j : Nat)
  | part (j lo n : Nat)

def posOf (j : Nat) : List Src → Nat → Option Nat
  | [], _ => none
  | .whole i :: r, k => match Nat.beq i j with
    | true => some k
    | false => posOf j r (k + 1)
  | _ :: r, k => posOf j r (k + 1)

def Src.name : Src → Option Nat
  | .nil => none
  | .whole j => some j
  | .part j _ _ => some j

/-- What is lent for writing is lent once. -/
def lentOnce (j : Nat) (w : Bool) : List Src → List Ent → Bool
  | s :: b, (rw, _) :: h => match s.name with
    | some i => (match Nat.beq i j, w || rw with
      | true, true => false
      | _, _ => lentOnce j w b h)
    | none => lentOnce j w b h
  | _, _ => true

def allOnce : List Src → List Ent → Bool
  | s :: b, (rw, _) :: h => match s.name with
    | some j => lentOnce j rw b h && allOnce b h
    | none => allOnce b h
  | _, _ => true

/-- One cell without addresses of its own, as an argument; 'w': lent for writing. -/
def lend0 (w : Bool) (ct : Option Ty) (c : SV) (β : List Src) (H : List Ent) (k : SV → List Src → List Ent → RM α) : RM α :=
  match c with
  | .int a n => k (.int a n) β H
  | .bool b => k (.bool b) β H
  | .nilp => k .nilp β H
  | .fn f none => k (.fn f none) β H
  | .vec j => .blk j fun
    | some (rw, .vec T xs) => (match w, rw with
      | true, true => k (.vec H.length) (β ++ [.whole j]) (H ++ [(true, .vec T xs)])
      | true, false => .fail
      | false, _ => k (.vec H.length) (β ++ [.whole j]) (H ++ [(false, .vec T xs)]))
    | _ => .fail
  | .sl j lo n => .blk j fun
    | some (_, .vec T xs) => (match w with
      | true => .fail
      | false => k (.vec H.length) (β ++ [.part j lo n]) (H ++ [(false, .vec T ((xs.drop lo).take n))]))
    | _ => .fail
  | .nilsl => match ct, w with
    | some T, false => k (.vec H.length) (β ++ [.nil]) (H ++ [(false, .vec T [])])
    | _, _ => .fail
  | _ => .fail

def lend0s (cs : List SV) (β : List Src) (H : List Ent) (k : List SV → List Src → List Ent → RM α) : RM α :=
  match cs with
  | [] => k [] β H
  | c :: r => lend0 false none c β H fun v β H => lend0s r β H fun vs β H => k (v :: vs) β H

/-- A block that an address names. -/
def lendB (j : Nat) (β : List Src) (H : List Ent) (k : Nat → List Src → List Ent → RM α) : RM α :=
  match posOf j β 0 with
  | some i => k i β H
  | none => .blk j fun
    | some (rw, .box cs) => lend0s cs β H fun cs β H => k H.length (β ++ [.whole j]) (H ++ [(rw, .box cs)])
    | some (rw, .vec T xs) => k H.length (β ++ [.whole j]) (H ++ [(rw, .vec T xs)])
    | _ => .fail

def lend1 (w : Bool) (ct : Option Ty) (c : SV) (β : List Src) (H : List Ent) (k : SV → List Src → List Ent → RM α) : RM α :=
  match c with
  | .ptr j e o => lendB j β H fun i β H => k (.ptr i e o) β H
  | .fn f (some j) => lendB j β H fun i β H => k (.fn f (some i)) β H
  | c => lend0 w ct c β H k

def lendCells (w : Bool) (cts : List (Option Ty)) (cs : List SV) (β : List Src) (H : List Ent) (k : List SV → List Src → List Ent → RM α) : RM α :=
  match cs with
  | [] => k [] β H
  | c :: r => lend1 w (cts.headD none) c β H fun v β H => lendCells w cts.tail r β H fun vs β H => k (v :: vs) β H

def lendArg (w : Bool) (cts : List (Option Ty)) (v : SV) (β : List Src) (H : List Ent) (k : SV → List Src → List Ent → RM α) : RM α :=
  match v with
  | .agg cs => lendCells w cts cs β H fun cs β H => k (.agg cs) β H
  | c => lend1 w (cts.headD none) c β H k

def lendArgs (ws : List Bool) (tss : List (List (Option Ty))) (vs : List SV) (β : List Src) (H : List Ent) (k : List SV → List Src → List Ent → RM α) : RM α :=
  match vs with
  | [] => k [] β H
  | v :: r => lendArg (ws.headD false) (tss.headD []) v β H fun v β H => lendArgs ws.tail tss.tail r β H fun vs β H => k (v :: vs) β H

/-- A canonical name's own name with the caller. -/
def backN (β : List Src) (d : Nat) (n : Nat) : Option Nat :=
  match Nat.blt n β.length with
  | true => (match β[n]? with
    | some (.whole j) => some j
    | _ => none)
  | false => some (nm d + (n - β.length))

def back1 (β : List Src) (d : Nat) (c : SV) : Option SV :=
  match c with
  | .vec n => (match Nat.blt n β.length with
    | true => (match β[n]? with
      | some (.whole j) => some (.vec j)
      | some (.part j lo m) => some (.sl j lo m)
      | some .nil => some .nilsl
      | none => none)
    | false => some (.vec (nm d + (n - β.length))))
  | .ptr n e o => (backN β d n).map fun j => .ptr j e o
  | .sl n lo m => (match Nat.blt n β.length with
    | true => (match β[n]? with
      | some (.whole j) => some (.sl j lo m)
      | some (.part j lo' _) => some (.sl j (lo' + lo) m)
      | some .nil => some .nilsl
      | none => none)
    | false => some (.sl (nm d + (n - β.length)) lo m))
  | .int k n => some (.int k n)
  | .bool b => some (.bool b)
  | .nilp => some .nilp
  | .nilsl => some .nilsl
  | _ => none

def backs (β : List Src) (d : Nat) : List SV → Option (List SV)
  | [] => some []
  | c :: r => match back1 β d c, backs β d r with
    | some c, some r => some (c :: r)
    | _, _ => none

def back2 (β : List Src) (d : Nat) (v : SV) : Option SV :=
  match v with
  | .agg cs => (backs β d cs).map .agg
  | c => back1 β d c

def back2s (β : List Src) (d : Nat) : List SV → Option (List SV)
  | [] => some []
  | c :: r => match back2 β d c, back2s β d r with
    | some c, some r => some (c :: r)
    | _, _ => none

def back3 (β : List Src) (d : Nat) (v : SV) : Option SV :=
  match v with
  | .tup vs => (back2s β d vs).map .tup
  | v => back2 β d v

def backBlk (β : List Src) (d : Nat) : Blk → Option Blk
  | .box cs => (backs β d cs).map .box
  | .vec T xs => some (.vec T xs)
  | .dead => some .dead

/-- What the caller's names are behind the call: written ones and new ones. 'H': as lent; 'H'': behind. -/
def backH (β : List Src) (d : Nat) : List Src → List Ent → List Ent → Nat → Option (List (Nat × Ent))
  | .whole j :: b, (true, _) :: h, (_, x) :: h', n => match backBlk β d x, backH β d b h h' n with
    | some x, some r => some ((j, true, x) :: r)
    | _, _ => none
  | _ :: b, _ :: h, _ :: h', n => backH β d b h h' n
  | [], [], (true, x) :: h', n => match backBlk β d x, backH β d [] [] h' (n + 1) with
    | some x, some r => some ((nm d + n, true, x) :: r)
    | _, _ => none
  | [], [], [], _ => some []
  | _, _, _, _ => none

/-- So many new names are free. -/
def freshes (d : Nat) : Nat → RM α → RM α
  | 0, k => k
  | n + 1, k => freshes d n (fresh (nm d + n) k)

def callF (fs : Fs) (tss : List (List (Option Ty))) (d : Nat) (args : List SV) : RM Delta :=
  lendArgs fs.w tss args [] [] fun vs β H => match fs.ev vs H with
    | some (p, r, H') => (match allOnce β H, back3 β d r, backH β d β H H' 0 with
      | true, some r, some hs => freshes d (H'.length - H.length) (.ret ⟨p, r, hs⟩)
      | _, _, _ => .fail)
    | none => .fail

def tiOf (tt : Types) (t : Nat) (k : TI → RM α) : RM α := match tt t with
  | some i => k i
  | none => .fail

def ctsOf (tt : Types) : List Nat → List (List (Option Ty))
  | [] => []
  | t :: r => (match tt t with
    | some i => i.cts
    | none => []) :: ctsOf tt r

def call (tt : Types) (S : Tab) (d : Nat) (f : Nat) (ts : List Nat) (args : List SV) : RM Delta :=
  match S f with
  | some fs => callF fs (ctsOf tt ts) d args
  | none => .fail

def fillS (fields : Nat → Option (Nat × Nat)) (cells : List SV) : List (Nat × SV) → Option (List SV)
  | [] => some cells
  | (i, v) :: r => match fields i with
    | some (o, n) => (match Nat.beq v.cells.length n && Nat.ble (o + n) cells.length && solid v.cells with
      | true => fillS fields (splice cells o v.cells) r
      | false => none)
    | none => none

def opParts (xs : List (Nat × Operand)) (k : List (Nat × SV) → RM α) : RM α :=
  match xs with
  | [] => k []
  | (i, x) :: r => opv x fun v => opParts r fun vs => k ((i, v) :: vs)

def chunks (n : Nat) : Nat → List SV → List (List SV)
  | 0, _ => []
  | m + 1, cs => cs.take n :: chunks n m (cs.drop n)

def rep (n : Nat) (zs : List SV) : List SV := match n with
  | 0 => []
  | n + 1 => zs ++ rep n zs

def maxs (k : IntKind) (x : Int) : List SV → Option Int
  | [] => some x
  | .int j y :: r => (match kindEq j k with
    | true => maxs k (if y > x then y else x) r
    | false => none)
  | _ => none
def mins (k : IntKind) (x : Int) : List SV → Option Int
  | [] => some x
  | .int j y :: r => (match kindEq j k with
    | true => mins k (if y < x then y else x) r
    | false => none)
  | _ => none

/-- Elements take bytes. -/
def roomy (e : TI) (k : RM α) : RM α := match Nat.blt 0 e.bytes with
  | true => k
  | false => .fail

/-- Room that no append and no make may pass. -/
def room : Nat := 140737488351232

def blt (tt : Types) (d : Nat) (b : Builtin) (ts : List Nat) (vs : List SV) : RM Delta :=
  match b, vs with
  | .len, [v] => (match ts with
    | t :: _ => tiOf tt t fun i => (match i.ty with
      | some _ => lenOf v fun n => ret1 (.int .i64 n)
      | none => .fail)
    | [] => .fail)
  | .max, .int k x :: r => (match maxs k x r with
    | some n => ret1 (.int k n)
    | none => .fail)
  | .min, .int k x :: r => (match mins k x r with
    | some n => ret1 (.int k n)
    | none => .fail)
  | .append, [a, x] => tiOf tt (ts.headD 0) fun i => tiOf tt i.elem fun e => (match (match ts with
      | [t, t'] => (match Nat.beq t t' with
        | true => i.ty
        | false => none)
      | _ => none) with
    | some T => roomy e (elems T x fun ys => (match a with
      | .nilsl => fresh (nm d) (.ret ⟨some (ys.length * e.bytes ≤ room), .vec (nm d), [(nm d, true, .vec T ys)]⟩)
      | .vec j => .blk j fun
        | some (true, .vec U xs) => (match castTo T U xs with
          | some xs => fresh (nm d) (.ret ⟨some ((xs.length + ys.length) * e.bytes ≤ room), .vec (nm d), [(j, true, .dead), (nm d, true, .vec T (xs ++ ys))]⟩)
          | none => .fail)
        | _ => .fail
      | .sl j lo n => .blk j fun
        | some (true, .vec U xs) => (match castTo T U xs with
          | some xs => .ret ⟨some (lo + n + ys.length ≤ xs.length), .sl j lo (n + ys.length), [(j, true, .vec T (spl xs (lo + n) ys))]⟩
          | none => .fail)
        | _ => .fail
      | _ => .fail))
    | none => .fail)
  | _, _ => .fail

/-- 'clear' of a part of a list. -/
def clr (tt : Types) (ts : List Nat) (vs : List SV) : RM Delta :=
  match ts, vs with
  | t :: _, [.sl j lo n] => tiOf tt t fun i => tiOf tt i.elem fun e => (match i.ty with
    | some T => (match T.dec e.zero with
      | some z => .blk j fun
        | some (true, .vec U xs) => (match castTo T U xs with
          | some xs => .ret ⟨none, noSlot, [(j, true, .vec T (spl xs lo (List.replicate n z)))]⟩
          | none => .fail)
        | _ => .fail
      | none => .fail)
    | none => .fail)
  | _, _ => .fail

/-- The bound of a slice expression: nothing, or a number. -/
def bndOf (x : Option Operand) (k : Option Int → RM α) : RM α :=
  match x with
  | none => k none
  | some x => opv x fun
    | .int _ n => k (some n)
    | _ => .fail

/-- The block is a list of such elements; its length. -/
def tyIs (t : Option Ty) (j : Nat) (k : Nat → RM α) : RM α := .blk j fun
  | some (_, .vec U xs) => (match t with
    | some T => (match Nat.beq T.sz U.sz with
      | true => k xs.length
      | false => .fail)
    | none => .fail)
  | _ => .fail

def sliceOf (ty : Option Ty) (v : SV) (lo hi : Option Int) : RM Delta :=
  match v with
  | .vec j => tyIs ty j fun n => (match lo, hi with
    | none, none => ret1 (.vec j)
    | some l, none => retc (0 ≤ l ∧ l ≤ n) (.sl j l.toNat (n - l.toNat))
    | none, some h => retc (0 ≤ h ∧ h ≤ n) (.sl j 0 h.toNat)
    | some l, some h => retc (0 ≤ l ∧ l ≤ h ∧ h ≤ n) (.sl j l.toNat (h.toNat - l.toNat)))
  | .sl j o n => tyIs ty j fun m => (match lo, hi with
    | none, none => ret1 (.sl j o n)
    | some l, none => retc (0 ≤ l ∧ l ≤ n) (.sl j (o + l.toNat) (n - l.toNat))
    | none, some h => retc (0 ≤ h ∧ o + h ≤ m) (.sl j o h.toNat)
    | some l, some h => retc (0 ≤ l ∧ l ≤ h ∧ o + h ≤ m) (.sl j (o + l.toNat) (h.toNat - l.toNat)))
  | .nilsl => (match ty, lo, hi with
    | some _, none, none => ret1 .nilsl
    | some _, some l, none => retc (l = 0) .nilsl
    | some _, none, some h => retc (h = 0) .nilsl
    | some _, some l, some h => retc (l = 0 ∧ h = 0) .nilsl
    | none, _, _ => .fail)
  | _ => .fail

/-- 's[:0:0]' -/
def zeroCut (lo hi mx : Option Operand) : Bool :=
  match lo, hi, mx with
  | none, some (.const (.int _ h)), some (.const (.int _ m)) => h == 0 && m == 0
  | _, _, _ => false

def evOp (tt : Types) (S : Tab) (o : Oper) : RM Delta :=
  match o.op, o.dst with
  | .move x, some _ => opv x ret1
  | .assign x, some _ => opv x ret1
  | .pick c a b, some _ => opv c fun
    | .bool t => (match t with
      | true => opv a ret1
      | false => opv b ret1)
    | _ => .fail
  | .alloc t, some d => tiOf tt t fun i => fresh (nm d) (.ret ⟨none, .ptr (nm d) 0 0, [(nm d, true, .box i.zero)]⟩)
  | .box t x, some d => opv x fun v => (match solid v.cells with
    | true => fresh (nm d) (.ret ⟨none, .ptr (nm d) 0 0, [(nm d, true, .box v.cells)]⟩)
    | false => .fail)
  | .build t ps, some _ => tiOf tt t fun i => opParts ps.toList fun ps => (match i.agg, fillS (i.fields[·]?) i.zero ps with
    | true, some cs => ret1 (.agg cs)
    | _, _ => .fail)
  | .buildSlice t n ps, some d => tiOf tt t fun i => tiOf tt i.elem fun e => opParts ps.toList fun ps => (match i.ty, fillS (fun i => some (i * e.size, e.size)) (rep n e.zero) ps, Nat.ble (n * e.size) 16777216 with
    | some T, some cs, true => (match decAll T (chunks e.size n cs) with
      | some xs => fresh (nm d) (.ret ⟨none, .vec (nm d), [(nm d, true, .vec T xs)]⟩)
      | none => .fail)
    | _, _, _ => .fail)
  | .load t x, some _ => tiOf tt t fun i => opv x fun
    | .ptr j e o => .blk j fun b => readBlk b e o i.size i.agg
    | _ => .fail
  | .store t x y, none => tiOf tt t fun i => opv x fun
    | .ptr j e o => opv y fun v => .blk j fun b => writeBlk j b e o i.size v.cells
    | _ => .fail
  | .nilCheck x, some _ => opv x fun
    | .ptr j e o => alive j (ret1 (.ptr j e o))
    | _ => .fail
  | .binOp op t x y _, some _ => opv x fun a => opv y fun b => tiOf tt t fun i => bin op (isCst y) i a b
  | .unOp op _ x, some _ => opv x fun a => un op a
  | .convert t0 t x, some _ => tiOf tt t0 fun _ => tiOf tt t fun i => opv x fun
    | .int _ n => (match i.kind with
      | some k => ret1 (.int k (k.wrap n))
      | none => .fail)
    | _ => .fail
  | .makeFunc (.func f) first caps, some _ => (match first.toList, caps.toList with
    | [], [] => ret1 (.fn f none)
    | [], [x] => opv x fun
      | .ptr j e o => (match Nat.beq e 0 && Nat.beq o 0 with
        | true => .blk j fun
          | some (_, .box _) => ret1 (.fn f (some j))
          | _ => .fail
        | false => .fail)
      | _ => .fail
    | _, _ => .fail)
  | .makeSlice t l c, some d => tiOf tt t fun i => tiOf tt i.elem fun e => opv l fun
    | .int .i64 n => opv c fun
      | .int .i64 m => (match i.ty with
        | some T => (match T.dec e.zero with
          | some z => roomy e <| fresh (nm d) (.ret ⟨some (0 ≤ n ∧ n = m ∧ n.toNat * e.bytes ≤ room), .vec (nm d), [(nm d, true, .vec T (List.replicate n.toNat z))]⟩)
          | none => .fail)
        | none => .fail)
      | _ => .fail
    | _ => .fail
  | .slice t x lo hi mx, some _ => tiOf tt t fun i => (match zeroCut lo hi mx, mx with
    | true, _ => opv x fun
      | .vec j => tyIs i.ty j fun _ => ret1 .nilsl
      | .nilsl => (match i.ty with
        | some _ => ret1 .nilsl
        | none => .fail)
      | _ => .fail
    | false, none => opv x fun v => bndOf lo fun l => bndOf hi fun h => sliceOf i.ty v l h
    | false, some m => opv x fun v => bndOf lo fun l => bndOf hi fun h => bndOf (some m) fun m => (match v, l, h, m with
      | .vec j, some l, some h, some m => tyIs i.ty j fun n => retc (0 ≤ l ∧ l ≤ h ∧ h ≤ m ∧ m ≤ n) .any
      | _, _, _, _ => .fail))
  | .fieldAddr t x f, some _ => tiOf tt t fun i => opv x fun
    | .ptr j e o => alive j (match i.fields[f]? with
      | some (k, _) => ret1 (.ptr j e (o + k))
      | none => .fail)
    | _ => .fail
  | .indexAddr t x ix, some _ => tiOf tt t fun i => opv x fun v => opv ix fun
    | .int _ n => (match v with
      | .vec j => tyIs i.ty j fun m => retc (0 ≤ n ∧ n < m) (.ptr j n.toNat 0)
      | .sl j lo m => tyIs i.ty j fun _ => retc (0 ≤ n ∧ n < m) (.ptr j (lo + n.toNat) 0)
      | _ => .fail)
    | _ => .fail
  | .extract x i, some _ => opv x fun
    | .tup vs => retO vs[i]?
    | _ => .fail
  | .call c, some d => opvs c.args.toList fun vs => (match c.callee with
    | .value (.func f) => call tt S d f c.argTypes.toList vs
    | .value (.tmp t) => .slot t fun
      | .fn f none => call tt S d f c.argTypes.toList vs
      | .fn f (some j) => .blk j fun
        | some (_, .box _) => call tt S d f c.argTypes.toList (vs ++ [.ptr j 0 0])
        | _ => .fail
      | _ => .fail
    | .builtin b => blt tt d b c.argTypes.toList vs
    | _ => .fail)
  | .call c, none => (match c.callee with
    | .builtin .clear => opvs c.args.toList fun vs => clr tt c.argTypes.toList vs
    | _ => .fail)
  | _, _ => .fail

def RM.run (T : Nat → SV) (H : Nat → Option Ent) : RM α → Option α
  | .ret a => some a
  | .fail => none
  | .slot d k => (k (T d)).run T H
  | .blk n k => (k (H n)).run T H

/-- Where a program looked: slots and names. -/
def RM.reads (T : Nat → SV) (H : Nat → Option Ent) : RM α → List Nat × List Nat
  | .ret _ => ([], [])
  | .fail => ([], [])
  | .slot d k => match (k (T d)).reads T H with
    | (a, b) => (d :: a, b)
  | .blk n k => match (k (H n)).reads T H with
    | (a, b) => (a, n :: b)

def putT (s : St) (dst : Option Nat) (v : SV) : St := match dst with
  | some d => ⟨(d, v) :: s.T, s.H⟩
  | none => s
def St.app (s : St) (dst : Option Nat) (δ : Delta) : St := putT ⟨s.T, δ.hs ++ s.H⟩ dst δ.v

def force2 {β : Sort 1} (v : SV) (K : SV → β) : β := match v with
  | .agg cs => forceL cs fun cs => K (.agg cs)
  | v => force1 v K
def force2s {β : Sort 1} (cs : List SV) (K : List SV → β) : β := match cs with
  | [] => K []
  | c :: r => force2 c fun c => force2s r fun r => K (c :: r)
def force3 {β : Sort 1} (v : SV) (K : SV → β) : β := match v with
  | .tup vs => force2s vs fun vs => K (.tup vs)
  | v => force2 v K
def forceB {β : Sort 1} (b : Blk) (K : Blk → β) : β := match b with
  | .box cs => forceL cs fun cs => K (.box cs)
  | .vec T xs => K (.vec T xs)
  | .dead => K .dead
def pushH {β : Sort 1} (hs : List (Nat × Ent)) (H : List (Nat × Ent)) (K : List (Nat × Ent) → β) : β := match hs with
  | [] => K H
  | (n, rw, b) :: r => forceB b fun b => pushH r H fun H => K ((n, rw, b) :: H)

def appK (s : St) (dst : Option Nat) (δ : Delta) (K : St → Prop) : Prop := match s with
  | ⟨T, H⟩ => force3 δ.v fun v => pushH δ.hs H fun H => match dst with
    | some d => K ⟨(d, v) :: T, H⟩
    | none => K ⟨T, H⟩
def putK (s : St) (dst : Option Nat) (v : SV) (K : St → Prop) : Prop := match s with
  | ⟨T, H⟩ => match dst with
    | some d => K ⟨(d, v) :: T, H⟩
    | none => K ⟨T, H⟩

def under (p : Option Prop) (q : Prop) : Prop := match p with
  | none => q
  | some p => p ∧ q

def ifB (c : Bool) (a b : Prop) : Prop := match c with
  | true => a
  | false => b

def dstOf (ops : List Oper) (g : Nat) : Option Nat := match ops[g]? with
  | some o => o.dst
  | none => none

/-- Nothing can be shown here (which kind of thing, at which slot). -/
inductive Bad (kind : Nat) (d : Option Nat) : Prop
theorem Bad.elim {k : Nat} {d : Option Nat} {α : Prop} (h : Bad k d) : α := nomatch h

def stepOp (tt : Types) (S : Tab) (o : Oper) (σ : St) (K : St → Prop) : Prop :=
  match (evOp tt S o).run σ.slot σ.blk with
  | some δ => under δ.ok (appK σ o.dst δ K)
  | none => Bad 1 o.dst

/-- 's == nil' of a whole list: how long the list is. -/
def ndOp (tt : Types) (σ : St) (o : Oper) : Option Nat :=
  match o.op with
  | .binOp .eql t (.tmp a) (.const (.slice none 0 0)) _ => (match σ.slot a, tt t with
    | .vec j, some i => (match i.ty, σ.blk j with
      | some _, some (_, .vec _ xs) => some xs.length
      | _, _ => none)
    | _, _ => none)
  | _ => none

/-- The operations one by one. -/
def goOps (tt : Types) (S : Tab) (all : List Oper) (ops : List Oper) (σ : St) (K : St → Prop) : Prop :=
  match ops with
  | [] => K σ
  | o :: r => match o.guard with
    | none => (match ndOp tt σ o, o.dst with
      | some n, some d => ∀ b : Bool, (b = true → n = 0) → putK σ (some d) (.bool b) fun s => goOps tt S all r s K
      | _, _ => stepOp tt S o σ fun s => goOps tt S all r s K)
    | some (g, want) => match dstOf all g with
      | some t => (match σ.slot t with
        | .bool c => ifB c
          (match want with
            | true => putK σ (some t) (.bool true) fun s => stepOp tt S o s fun s => goOps tt S all r s K
            | false => putK σ (some t) (.bool true) fun s => putK s o.dst noSlot fun s => goOps tt S all r s K)
          (match want with
            | false => putK σ (some t) (.bool false) fun s => stepOp tt S o s fun s => goOps tt S all r s K
            | true => putK σ (some t) (.bool false) fun s => putK s o.dst noSlot fun s => goOps tt S all r s K)
        | .tup [] => putK σ o.dst noSlot fun s => goOps tt S all r s K
        | _ => Bad 2 o.dst)
      | none => Bad 3 o.dst

end Go.Proofs.YtdhbkcaaijgocaaGreat.Sym

namespace Go.Proofs.YtdhbkcaaijgocaaGreat.Sym
open Go
set_option linter.unusedVariables false
set_option linter.unusedSimpArgs false

/-- What an operation touched: the slots and names that it read, the slot and the names that it wrote. -/
structure Foot where
  rs : List Nat
  rn : List Nat
  ws : List Nat
  wn : List Nat

def meets (a b : List Nat) : Bool := a.any fun x => b.any fun y => Nat.beq x y

def Foot.apart (a b : Foot) : Bool :=
  !(meets a.ws b.rs) && !(meets a.ws b.ws) && !(meets a.wn b.rn) && !(meets a.wn b.wn) && !(meets b.ws a.rs) && !(meets b.wn a.rn)

/-- Which operations come surely ahead of each: a list of places for each operation, out of the edges that bind. -/
def aheads (ops : List Oper) (acc : List (List Nat)) : List (List Nat) :=
  match ops with
  | [] => acc
  | o :: r => aheads r (acc ++ [o.after.toList.foldr (fun e s => match Region.binds .any e && Nat.blt e.on acc.length with
    | true => e.on :: ((acc[e.on]?).getD [] ++ s)
    | false => s) []])

/-- The edges that bind lead back. -/
def edgesBack : List Oper → Nat → Bool
  | [], _ => true
  | o :: r, j => (o.after.toList.all fun e => !(Region.binds .any e) || Nat.blt e.on j) && edgesBack r (j + 1)

/-- Every two operations of which neither surely comes first are apart. 'fs': the feet, first to last; 'as': what comes ahead of each. -/
def okFeet (n : Nat) (fs : List Foot) (as : List (List Nat)) : Bool :=
  (List.range n).all fun j => (List.range j).all fun i =>
    match fs[i]?, fs[j]?, as[j]? with
    | some a, some b, some s => (s.any fun x => Nat.beq x i) || a.apart b
    | _, _, _ => false

def forceN {β : Sort 1} (n : Nat) (K : Nat → β) : β := match n with
  | 0 => K 0
  | m + 1 => K (m + 1)
def bitN (x : Nat) : Nat := Nat.shiftLeft 1 x
def tbN (m n : Nat) : Bool := !(Nat.beq (Nat.land 1 (Nat.shiftRight m n)) 0)
def maskL : List Nat → Nat
  | [] => 0
  | x :: r => Nat.lor (bitN x) (maskL r)
structure MF where
  rs : Nat
  rn : Nat
  ws : Nat
  wn : Nat
def mf (f : Foot) : MF := ⟨maskL f.rs, maskL f.rn, maskL f.ws, maskL f.wn⟩
def noneN (a b : Nat) : Bool := Nat.beq (Nat.land a b) 0
def MF.apart (a b : MF) : Bool :=
  noneN a.ws b.rs && noneN a.ws b.ws && noneN a.wn b.rn && noneN a.wn b.wn && noneN b.ws a.rs && noneN b.wn a.rn
def mfs : List Foot → (List MF → Bool) → Bool
  | [], K => K []
  | f :: r, K => forceN (maskL f.rs) fun a => forceN (maskL f.rn) fun b => forceN (maskL f.ws) fun c => forceN (maskL f.wn) fun d => mfs r fun l => K (⟨a, b, c, d⟩ :: l)
def edgesM (es : List Edge) (acc : List Nat) : Nat := es.foldr (fun e s => match Region.binds .any e && Nat.blt e.on acc.length with
  | true => Nat.lor (bitN e.on) (Nat.lor ((acc[e.on]?).getD 0) s)
  | false => s) 0
def aheadsM : List Oper → List Nat → (List Nat → Bool) → Bool
  | [], acc, K => K acc
  | o :: r, acc, K => forceN (edgesM o.after.toList acc) fun m => aheadsM r (acc ++ [m]) K
def okPrev (a : Nat) (f : MF) : List MF → Nat → Bool
  | [], _ => true
  | g :: r, i => (match tbN a i with
    | true => true
    | false => g.apart f) && okPrev a f r (i + 1)
def chkM : List MF → List Nat → List MF → Bool
  | f :: fs, a :: as, prev => okPrev a f prev 0 && chkM fs as (prev ++ [f])
  | [], [], _ => true
  | _, _, _ => false
def fastFeet (n : Nat) (fs : List Foot) (ops : List Oper) : Bool :=
  mfs fs fun ms => aheadsM ops [] fun as => Nat.beq ms.length n && chkM ms as []

def footOf (tt : Types) (S : Tab) (o : Oper) (σ : St) (δ : Delta) (gs : List Nat) : Foot :=
  match (evOp tt S o).reads σ.slot σ.blk with
  | (a, b) => ⟨gs ++ a, b, o.dst.toList, δ.hs.map (·.1)⟩

def stepD (tt : Types) (S : Tab) (o : Oper) (gs : List Nat) (σ : St) (K : St → Foot → Prop) : Prop :=
  match (evOp tt S o).run σ.slot σ.blk with
  | some δ => under δ.ok (appK σ o.dst δ fun s => K s (footOf tt S o σ δ gs))
  | none => Bad 4 o.dst

def goDraw (tt : Types) (S : Tab) (all : List Oper) (ops : List Oper) (σ : St) (fs : List Foot) (K : St → Prop) : Prop :=
  match ops with
  | [] => (match fastFeet all.length fs all && edgesBack all 0 with
    | true => K σ
    | false => Bad 5 none)
  | o :: r => match o.guard with
    | none => stepD tt S o [] σ fun s f => goDraw tt S all r s (fs ++ [f]) K
    | some (g, want) => match dstOf all g with
      | some t => (match σ.slot t with
        | .bool c => ifB c
          (match want with
            | true => putK σ (some t) (.bool true) fun s => stepD tt S o [t] s fun s f => goDraw tt S all r s (fs ++ [f]) K
            | false => putK σ (some t) (.bool true) fun s => putK s o.dst noSlot fun s => goDraw tt S all r s (fs ++ [⟨[t], [], o.dst.toList, []⟩]) K)
          (match want with
            | false => putK σ (some t) (.bool false) fun s => stepD tt S o [t] s fun s f => goDraw tt S all r s (fs ++ [f]) K
            | true => putK σ (some t) (.bool false) fun s => putK s o.dst noSlot fun s => goDraw tt S all r s (fs ++ [⟨[t], [], o.dst.toList, []⟩]) K)
        | .tup [] => putK σ o.dst noSlot fun s => goDraw tt S all r s (fs ++ [⟨[t], [], o.dst.toList, []⟩]) K
        | _ => Bad 2 o.dst)
      | none => Bad 3 o.dst

/-- Canonical names: 'β': which name of the state each is (none: a new one); 'P': blocks of those from m on. -/
structure Can where
  β : List Src
  P : List Ent

def can0 (σ : St) (ct : Option Ty) (c : SV) (z : Can) (k : SV → Can → Option (List SV × List Ent)) : Option (List SV × List Ent) :=
  match c with
  | .vec j => (match posOf j z.β 0 with
    | some i => k (.vec i) z
    | none => match σ.blk j with
      | some (rw, .vec T xs) => k (.vec z.β.length) ⟨z.β ++ [.whole j], z.P ++ [(rw, .vec T xs)]⟩
      | _ => none)
  | .sl j lo n => (match posOf j z.β 0 with
    | some i => k (.sl i lo n) z
    | none => match σ.blk j with
      | some (rw, .vec T xs) => k (.sl z.β.length lo n) ⟨z.β ++ [.whole j], z.P ++ [(rw, .vec T xs)]⟩
      | _ => none)
  | .nilsl => (match ct with
    | some T => k (.vec z.β.length) ⟨z.β ++ [.nil], z.P ++ [(true, .vec T [])]⟩
    | none => k .nilsl z)
  | .int a n => k (.int a n) z
  | .bool b => k (.bool b) z
  | .nilp => k .nilp z
  | .fn f none => k (.fn f none) z
  | _ => none

def can0s (σ : St) (cts : List (Option Ty)) (cs : List SV) (z : Can) (k : List SV → Can → Option (List SV × List Ent)) : Option (List SV × List Ent) :=
  match cs with
  | [] => k [] z
  | c :: r => can0 σ (cts.headD none) c z fun v z => can0s σ cts.tail r z fun vs z => k (v :: vs) z

def canB (σ : St) (cts : List (Option Ty)) (j : Nat) (z : Can) (k : Nat → Can → Option (List SV × List Ent)) : Option (List SV × List Ent) :=
  match posOf j z.β 0 with
  | some i => k i z
  | none => match σ.blk j with
    | some (rw, .box cs) => can0s σ cts cs z fun cs z => (match posOf j z.β 0 with
      | none => k z.β.length ⟨z.β ++ [.whole j], z.P ++ [(rw, .box cs)]⟩
      | some _ => none)
    | some (rw, .vec T xs) => k z.β.length ⟨z.β ++ [.whole j], z.P ++ [(rw, .vec T xs)]⟩
    | _ => none

def can1 (σ : St) (ct : Option Ty) (c : SV) (z : Can) (k : SV → Can → Option (List SV × List Ent)) : Option (List SV × List Ent) :=
  match c with
  | .ptr j e o => canB σ [] j z fun i z => k (.ptr i e o) z
  | .fn f (some j) => canB σ [] j z fun i z => k (.fn f (some i)) z
  | c => can0 σ ct c z k

def can1s (σ : St) (cts : List (Option Ty)) (cs : List SV) (z : Can) (k : List SV → Can → Option (List SV × List Ent)) : Option (List SV × List Ent) :=
  match cs with
  | [] => k [] z
  | c :: r => can1 σ (cts.headD none) c z fun v z => can1s σ cts.tail r z fun vs z => k (v :: vs) z

def can2 (σ : St) (cts : List (Option Ty)) (v : SV) (z : Can) (k : SV → Can → Option (List SV × List Ent)) : Option (List SV × List Ent) :=
  match v with
  | .agg cs => can1s σ cts cs z fun cs z => k (.agg cs) z
  | .ptr j e o => canB σ cts j z fun i z => k (.ptr i e o) z
  | c => can1 σ (cts.headD none) c z k

def can2s (σ : St) (tss : List (List (Option Ty))) (vs : List SV) (z : Can) (k : List SV → Can → Option (List SV × List Ent)) : Option (List SV × List Ent) :=
  match vs with
  | [] => k [] z
  | v :: r => can2 σ (tss.headD []) v z fun v z => can2s σ tss.tail r z fun vs z => k (v :: vs) z

/-- The blocks of the arguments, their cells in canonical names. -/
def canArgs (σ : St) : Nat → Nat → Can → List Ent → (Can → List Ent → Option (List SV × List Ent)) → Option (List SV × List Ent)
  | 0, _, z, A, k => k z A
  | m + 1, j, z, A, k => match σ.blk j with
    | some (rw, .box cs) => can0s σ [] cs z fun cs z => canArgs σ m (j + 1) z (A ++ [(rw, .box cs)]) k
    | some (rw, b) => canArgs σ m (j + 1) z (A ++ [(rw, b)]) k
    | none => none

def canon (σ : St) (m : Nat) (tss : List (List (Option Ty))) (vs : List SV) : Option (List SV × List Ent) :=
  canArgs σ m 0 ⟨(List.range m).map .whole, []⟩ [] fun z A => can2s σ tss vs z fun vs z => match Nat.blt z.β.length 64 with
    | true => some (vs, A ++ z.P)
    | false => none

/-- What is said of a loop: its live slots (with the kinds of lists that may be nil), its states, how they look, what holds of the first one and each, a measure. -/
structure LS where
  S : Type
  live : List (Nat × List (Option Ty))
  shape : S → List SV × List Ent
  get : List SV → List Ent → Option S
  inv : S → S → Prop
  mu : S → Nat
  ok : ∀ v h s, get v h = some s → shape s = (v, h)

def number : List Ent → Nat → List (Nat × Ent)
  | [], _ => []
  | e :: r, n => (n, e) :: number r (n + 1)

def ofShape (live : List (Nat × List (Option Ty))) (x : List SV × List Ent) : St :=
  ⟨(live.map (·.1)).zip x.1, number x.2 0⟩

inductive Ex where
  | normal
  | exit (id : Nat)
  | ret

def firstRegion : Code → Nat
  | .region id _ _ => id
  | .seq a b => match firstRegion a with
    | 0 => firstRegion b
    | n => n
  | .cond _ a b => match firstRegion a with
    | 0 => firstRegion b
    | n => n
  | .block _ b => firstRegion b
  | .loop b => firstRegion b
  | _ => 0

abbrev Loops := Nat → Option LS

def enterLS (σ : St) (m : Nat) (l : LS) (K : l.S → Prop) : Prop :=
  match canon σ m (l.live.map (·.2)) (l.live.map fun x => σ.slot x.1) with
  | some (v, h) => (match l.get v h with
    | some s => K s
    | none => Bad 6 none)
  | none => Bad 7 none

def condOf (σ : St) : Operand → SV
  | .tmp t => σ.slot t
  | .const v => cst v
  | _ => .any

def evP (tt : Types) (S : Tab) (L : Loops) (m : Nat) (c : Code) (σ : St) (K : Ex → St → Prop) : Prop :=
  match c with
  | .skip => K .normal σ
  | .region _ ops draw => match draw with
    | true => goDraw tt S ops.toList ops.toList σ [] (K .normal)
    | false => goOps tt S ops.toList ops.toList σ (K .normal)
  | .seq a b => evP tt S L m a σ fun e s => match e with
    | .normal => evP tt S L m b s K
    | .exit i => K (.exit i) s
    | .ret => K .ret s
  | .cond c x y => match condOf σ c with
    | .bool t => ifB t (evP tt S L m x σ K) (evP tt S L m y σ K)
    | _ => Bad 8 none
  | .block id b => evP tt S L m b σ fun e s => match e with
    | .normal => K .normal s
    | .exit i => (match Nat.beq i id with
      | true => K .normal s
      | false => K (.exit i) s)
    | .ret => K .ret s
  | .loop b => match L (firstRegion b) with
    | some l => enterLS σ m l fun s0 => l.inv s0 s0 ∧ ∀ x, l.inv s0 x → evP tt S L m b (ofShape l.live (l.shape x)) fun e s => match e with
      | .normal => enterLS s m l (fun y => l.inv s0 y ∧ l.mu y < l.mu x)
      | .exit i => K (.exit i) s
      | .ret => K .ret s
    | none => Bad 9 (some (firstRegion b))
  | .exit id => K (.exit id) σ
  | .ret => K .ret σ
  | _ => False

/-- The results of a function: its slots, or what lies behind them. -/
def resOf (tt : Types) (σ : St) : ResultVar → Option (SV × List (Option Ty))
  | .tmp t => some (σ.slot t, [])
  | .cell a t => match tt t, σ.slot a with
    | some i, .ptr j e o => (match (readBlk (σ.blk j) e o i.size i.agg).run σ.slot σ.blk with
      | some δ => some (δ.v, i.cts)
      | none => none)
    | _, _ => none

def resAll (tt : Types) (σ : St) : List ResultVar → List Nat → Option (List SV × List (List (Option Ty)))
  | [], _ => some ([], [])
  | r :: rs, ts => match resOf tt σ r, resAll tt σ rs ts.tail with
    | some (v, _), some (vs, cs) => some (v :: vs, (match tt (ts.headD 0) with
      | some i => i.cts
      | none => []) :: cs)
    | _, _ => none

/-- In a result, a list of the arguments' is a part of it. -/
def asPart (m : Nat) (h : List Ent) (c : SV) : SV := match c with
  | .vec i => (match Nat.blt i m, h[i]? with
    | true, some (_, .vec _ xs) => .sl i 0 xs.length
    | _, _ => .vec i)
  | c => c

def partsBlk (m : Nat) (h : List Ent) : List Ent → List Ent
  | [] => []
  | (rw, .box cs) :: r => (rw, .box (cs.map (asPart m h))) :: partsBlk m h r
  | e :: r => e :: partsBlk m h r

def parts2 (m : Nat) (h : List Ent) (v : SV) : SV := match v with
  | .agg cs => .agg (cs.map (asPart m h))
  | c => asPart m h c

def tupOf : List SV → SV
  | [v] => v
  | vs => .tup vs

def finish (tt : Types) (fn : Func) (m : Nat) (σ : St) (Q : SV → List Ent → Prop) : Prop :=
  match resAll tt σ fn.results.toList fn.resultTypes.toList with
  | some (vs, cs) => (match canon σ m cs vs with
    | some (vs, h) => Q (tupOf (vs.map (parts2 m h))) (h.take m ++ partsBlk m h (h.drop m))
    | none => Bad 10 none)
  | none => Bad 11 none

def startT : List SV → Nat → List (Nat × SV)
  | [], _ => []
  | v :: r, n => (n, v) :: startT r (n + 1)

def dsts (n : Nat) : Code → Bool
  | .region _ ops _ => ops.toList.all fun o => match o.dst with
    | some d => Nat.blt d n
    | none => true
  | .seq a b => dsts n a && dsts n b
  | .cond _ a b => dsts n a && dsts n b
  | .block _ b => dsts n b
  | .loop b => dsts n b
  | _ => true

/-- What is to be shown of a function at given arguments and blocks. -/
def fnVC (tt : Types) (S : Tab) (L : Loops) (fn : Func) (args : List SV) (H : List Ent) (Q : SV → List Ent → Prop) : Prop :=
  match fn.body with
  | some c => match dsts fn.ntmps c && Nat.blt H.length 64 with
    | true => evP tt S L H.length c ⟨startT args 0, number H 0⟩ fun e s => match e with
      | .normal => finish tt fn H.length s Q
      | .ret => finish tt fn H.length s Q
      | .exit _ => False
    | false => False
  | none => False

end Go.Proofs.YtdhbkcaaijgocaaGreat.Sym

namespace Go.Proofs.YtdhbkcaaijgocaaGreat.Sym
open Go
set_option linter.unusedVariables false
set_option linter.unusedSimpArgs false

abbrev Env := Nat → Option Addr × Nat
abbrev Hp := Nat → Option Ent

def svl : SV → Value
  | .int k n => .int k n
  | .bool b => .bool b
  | _ => .tuple #[]

def concC (env : Env) (H : Hp) (c : SV) (v : Value) : Prop :=
  match c with
  | .int k n => v = .int k n
  | .bool b => v = .bool b
  | .nilp => v = .pointer none
  | .ptr j e o => (match H j with
    | some (_, .dead) => v.oneCell' = true
    | some (_, .box _) => ∃ b, (env j).1 = some ⟨b, 0, none⟩ ∧ v = .pointer (some ⟨b, o, none⟩)
    | some (_, .vec T xs) => ∃ b off, (env j).1 = some ⟨b, off, none⟩ ∧ e < xs.length ∧ v = .pointer (some ⟨b, off + e * T.sz + o, none⟩)
    | none => False)
  | .vec j => (match H j with
    | some (_, .dead) => v.oneCell' = true
    | some (_, .vec _ xs) => v = .slice (env j).1 xs.length (env j).2
    | _ => False)
  | .sl j lo n => (match H j with
    | some (_, .dead) => v.oneCell' = true
    | some (_, .vec T xs) => lo + n ≤ xs.length ∧ ∃ x, v = .slice x n ((env j).2 - lo) ∧ ((env j).2 = lo ∨ x = (env j).1.map (·.add (lo * T.sz)))
    | _ => False)
  | .nilsl => ∃ x, v = .slice x 0 0
  | .fn f none => v = .func (.func f) #[] #[]
  | .fn f (some j) => (match H j with
    | some (_, .dead) => v.oneCell' = true
    | some (_, .box _) => ∃ b, (env j).1 = some ⟨b, 0, none⟩ ∧ v = .func (.func f) #[] #[.pointer (some ⟨b, 0, none⟩)]
    | _ => False)
  | .any => True
  | .agg _ => False
  | .tup _ => False

def concCs (env : Env) (H : Hp) : List SV → List Value → Prop
  | [], [] => True
  | c :: cs, v :: vs => concC env H c v ∧ concCs env H cs vs
  | _, _ => False

def conc2 (env : Env) (H : Hp) (c : SV) (v : Value) : Prop :=
  match c with
  | .agg cs => ∃ vs, v = .agg vs ∧ concCs env H cs vs.toList
  | c => concC env H c v

def conc2s (env : Env) (H : Hp) : List SV → List Value → Prop
  | [], [] => True
  | c :: cs, v :: vs => conc2 env H c v ∧ conc2s env H cs vs
  | _, _ => False

def conc (env : Env) (H : Hp) (c : SV) (v : Value) : Prop :=
  match c with
  | .tup cs => ∃ vs, v = .tuple vs ∧ conc2s env H cs vs.toList
  | c => conc2 env H c v

/-- The cells of a list lie in a block from a place on. -/
def Lies (T : Ty) (xs : List T.El) (vs : Array Value) (off : Nat) : Prop :=
  ∀ e, e < xs.length → ∀ o, o < T.sz → vs[off + e * T.sz + o]? = some (svl ((T.enc (T.ix xs e)).getD o .any))

def blkRel (env : Env) (H : Hp) (j : Nat) (rw : Bool) (b : Blk) (w : World) : Prop :=
  match b with
  | .box cs => ∃ b E vs fz, (env j).1 = some ⟨b, 0, none⟩ ∧ w.heap[b]? = some (.cells vs E fz) ∧ concCs env H cs vs.toList ∧ (rw = true → fz = (0, 0))
  | .vec T xs => xs.length ≤ (env j).2 ∧ ((env j).2 = 0 ∨ ∃ b off E vs fz, (env j).1 = some ⟨b, off, none⟩ ∧ w.heap[b]? = some (.cells vs E fz) ∧
      off + (env j).2 * T.sz ≤ vs.size ∧ Lies T xs vs off ∧ (rw = true → fz = (0, 0)))
  | .dead => True

/-- The block that a name owns. -/
def own (env : Env) (j : Nat) (b : Blk) : Option Nat :=
  match b with
  | .box _ => (env j).1.map (·.block)
  | .vec _ _ => if (env j).2 = 0 then none else (env j).1.map (·.block)
  | .dead => none

structure HRel (wr : Nat → Prop) (env : Env) (H : Hp) (w : World) : Prop where
  blk : ∀ j rw b, H j = some (rw, b) → blkRel env H j rw b w
  dj : ∀ i j ri bi rj bj, i ≠ j → H i = some (ri, bi) → H j = some (rj, bj) → (ri = true ∨ rj = true) → ∀ x, own env i bi = some x → own env j bj = some x → False
  wrt : ∀ j b, H j = some (true, b) → ∀ x, own env j b = some x → wr x

/-- Behind a stretch of code: what may not be written is as it was. -/
structure Fr (wr : Nat → Prop) (w0 w : World) : Prop where
  os : w.os = w0.os
  tape : w.tape = w0.tape
  output : w.output = w0.output
  size : w0.heap.size ≤ w.heap.size
  blk : ∀ k, k < w0.heap.size → ¬ wr k → w.heap[k]? = w0.heap[k]?

theorem Fr.refl (wr : Nat → Prop) (w : World) : Fr wr w w := ⟨rfl, rfl, rfl, Nat.le_refl _, fun _ _ _ => rfl⟩

theorem Fr.trans {wr : Nat → Prop} {a b c : World} (h : Fr wr a b) (k : Fr wr b c) : Fr wr a c :=
  ⟨k.os.trans h.os, k.tape.trans h.tape, k.output.trans h.output, Nat.le_trans h.size k.size, fun i hi hw => (k.blk i (Nat.lt_of_lt_of_le hi h.size) hw).trans (h.blk i hi hw)⟩

theorem Fr.weaken {wr wr' : Nat → Prop} {a b : World} (h : Fr wr a b) (hw : ∀ k, k < a.heap.size → wr k → wr' k) : Fr wr' a b :=
  ⟨h.os, h.tape, h.output, h.size, fun k hk hn => h.blk k hk fun x => hn (hw k hk x)⟩

structure Rel (n : Nat) (wr : Nat → Prop) (w0 : World) (env : Env) (T : Nat → SV) (H : Hp) (a : Act) (w : World) : Prop where
  defers : a.defers = []
  size : n ≤ a.tmps.size
  slots : ∀ d, conc env H (T d) (a.tmps.getD d undef)
  heap : HRel wr env H w
  fr : Fr wr w0 w
  new : ∀ k, w0.heap.size ≤ k → wr k

/-- How a block may change under those who name it. -/
def stays (b b' : Blk) : Prop :=
  match b, b' with
  | _, .dead => True
  | .box _, .box _ => True
  | .vec T xs, .vec U ys => T = U ∧ xs.length = ys.length
  | _, _ => False

theorem stays_refl (b : Blk) : stays b b := by cases b <;> simp [stays]

structure Ext (env : Env) (H : Hp) (env' : Env) (H' : Hp) : Prop where
  same : ∀ j r b, H j = some (r, b) → env' j = env j ∧ ∃ r' b', H' j = some (r', b') ∧ stays b b'

theorem Ext.refl (env : Env) (H : Hp) : Ext env H env H := ⟨fun j r b h => ⟨rfl, r, b, h, stays_refl b⟩⟩

theorem stays_trans {a b c : Blk} (h : stays a b) (k : stays b c) : stays a c := by
  cases a <;> cases b <;> cases c <;> simp_all [stays]

theorem Ext.trans {e1 e2 e3 : Env} {H1 H2 H3 : Hp} (h : Ext e1 H1 e2 H2) (k : Ext e2 H2 e3 H3) : Ext e1 H1 e3 H3 :=
  ⟨fun j r b hj => by
    obtain ⟨he, r', b', hj', hs⟩ := h.same j r b hj
    obtain ⟨he', r'', b'', hj'', hs'⟩ := k.same j r' b' hj'
    exact ⟨he'.trans he, r'', b'', hj'', stays_trans hs hs'⟩⟩

theorem concC_one {env : Env} {H : Hp} {c : SV} {v : Value} (h : concC env H c v) (hc : c ≠ .any) : v.oneCell' = true := by
  cases c with
  | any => exact absurd rfl hc
  | agg cs => exact h.elim
  | tup cs => exact h.elim
  | fn f cap =>
    cases cap with
    | none => simp only [concC] at h; rw [h]; rfl
    | some j =>
      simp only [concC] at h
      split at h
      · exact h
      · obtain ⟨b, _, e⟩ := h; rw [e]; rfl
      · exact h.elim
  | ptr j e o =>
    simp only [concC] at h
    split at h
    · exact h
    · obtain ⟨b, _, e⟩ := h; rw [e]; rfl
    · obtain ⟨b, off, _, _, e⟩ := h; rw [e]; rfl
    · exact h.elim
  | vec j =>
    simp only [concC] at h
    split at h
    · exact h
    · rw [h]; rfl
    · exact h.elim
  | sl j lo n =>
    simp only [concC] at h
    split at h
    · exact h
    · obtain ⟨_, x, e, _⟩ := h; rw [e]; rfl
    · exact h.elim
  | nilsl => obtain ⟨x, e⟩ := h; rw [e]; rfl
  | _ => simp only [concC] at h; rw [h]; rfl

theorem concC_ext {env env' : Env} {H H' : Hp} (x : Ext env H env' H') {c : SV} {v : Value} (h : concC env H c v) : concC env' H' c v := by
  have h1 := concC_one h
  cases c with
  | ptr j e o =>
    have h1 := h1 (by simp)
    simp only [concC] at h ⊢
    cases hj : H j with
    | none => simp [hj] at h
    | some p =>
      obtain ⟨r, b⟩ := p
      obtain ⟨he, r', b', hj', hs⟩ := x.same j r b hj
      rw [hj', he]
      rw [hj] at h
      cases b <;> cases b' <;> simp only [stays] at hs <;> first | exact h1 | exact h | skip
      obtain ⟨rfl, hl⟩ := hs
      simp only at h ⊢
      rw [← hl]
      exact h
  | vec j =>
    have h1 := h1 (by simp)
    simp only [concC] at h ⊢
    cases hj : H j with
    | none => simp [hj] at h
    | some p =>
      obtain ⟨r, b⟩ := p
      obtain ⟨he, r', b', hj', hs⟩ := x.same j r b hj
      rw [hj', he]
      rw [hj] at h
      cases b <;> cases b' <;> simp only [stays] at hs <;> first | exact h1 | exact h | skip
      obtain ⟨rfl, hl⟩ := hs
      simp only at h ⊢
      rw [← hl]
      exact h
  | sl j lo n =>
    have h1 := h1 (by simp)
    simp only [concC] at h ⊢
    cases hj : H j with
    | none => simp [hj] at h
    | some p =>
      obtain ⟨r, b⟩ := p
      obtain ⟨he, r', b', hj', hs⟩ := x.same j r b hj
      rw [hj', he]
      rw [hj] at h
      cases b <;> cases b' <;> simp only [stays] at hs <;> first | exact h1 | exact h | skip
      obtain ⟨rfl, hl⟩ := hs
      simp only at h ⊢
      rw [← hl]
      exact h
  | fn f cap =>
    cases cap with
    | none => exact h
    | some j =>
      have h1 := h1 (by simp)
      simp only [concC] at h ⊢
      cases hj : H j with
      | none => simp [hj] at h
      | some p =>
        obtain ⟨r, b⟩ := p
        obtain ⟨he, r', b', hj', hs⟩ := x.same j r b hj
        rw [hj', he]
        rw [hj] at h
        cases b <;> cases b' <;> simp only [stays] at hs <;> first | exact h1 | exact h
  | _ => exact h

theorem concCs_ext {env env' : Env} {H H' : Hp} (x : Ext env H env' H') : ∀ {cs : List SV} {vs : List Value}, concCs env H cs vs → concCs env' H' cs vs
  | [], [], h => h
  | _ :: _, _ :: _, h => ⟨concC_ext x h.1, concCs_ext x h.2⟩

theorem conc2_ext {env env' : Env} {H H' : Hp} (x : Ext env H env' H') {c : SV} {v : Value} (h : conc2 env H c v) : conc2 env' H' c v := by
  cases c <;> simp only [conc2] at h ⊢ <;> first | exact concC_ext x h | (obtain ⟨vs, e, h⟩ := h; exact ⟨vs, e, concCs_ext x h⟩)

theorem conc2s_ext {env env' : Env} {H H' : Hp} (x : Ext env H env' H') : ∀ {cs : List SV} {vs : List Value}, conc2s env H cs vs → conc2s env' H' cs vs
  | [], [], h => h
  | _ :: _, _ :: _, h => ⟨conc2_ext x h.1, conc2s_ext x h.2⟩

theorem conc_ext {env env' : Env} {H H' : Hp} (x : Ext env H env' H') {c : SV} {v : Value} (h : conc env H c v) : conc env' H' c v := by
  cases c <;> simp only [conc] at h ⊢ <;> first | exact conc2_ext x h | (obtain ⟨vs, e, h⟩ := h; exact ⟨vs, e, conc2s_ext x h⟩)

def updT (T : Nat → SV) (dst : Option Nat) (v : SV) : Nat → SV := fun d => match dst with
  | some t => (match Nat.beq t d with
    | true => v
    | false => T d)
  | none => T d
def updH (H : Hp) (hs : List (Nat × Ent)) : Hp := fun n => match look hs n with
  | some e => some e
  | none => H n

theorem Rel.put {n : Nat} {wr : Nat → Prop} {w0 : World} {env env' : Env} {T : Nat → SV} {H H' : Hp} {a : Act} {w w' : World} (h : Rel n wr w0 env T H a w)
    (x : Ext env H env' H') (hh : HRel wr env' H' w') (hf : Fr wr w w') {dst : Option Nat} (hd : ∀ d, dst = some d → d < n) {v : SV} {u : Value} (hc : conc env' H' v u) :
    Rel n wr w0 env' (updT T dst v) H' (a.put dst u) w' := by
  refine ⟨?_, ?_, ?_, hh, h.fr.trans hf, h.new⟩
  · cases dst <;> exact h.defers
  · cases dst <;> simp [Act.put] <;> exact h.size
  · intro d
    cases dst with
    | none => exact conc_ext x (h.slots d)
    | some t =>
      have ht := hd t rfl
      have hs := h.size
      simp only [updT, Act.put]
      cases e : Nat.beq t d with
      | true =>
        have : t = d := Nat.eq_of_beq_eq_true e
        subst this
        simp only
        rw [Array.getD_eq_getD_getElem?, Array.getElem?_setIfInBounds_self_of_lt (by omega)]
        exact hc
      | false =>
        have : t ≠ d := fun q => by subst q; simp at e
        simp only
        rw [Array.getD_eq_getD_getElem?, Array.getElem?_setIfInBounds_ne this, ← Array.getD_eq_getD_getElem?]
        exact conc_ext x (h.slots d)

def zeroFits : List SV → List Value → Bool
  | [], [] => true
  | .int k n :: r, .int j m :: s => k == j && n == m && zeroFits r s
  | .bool b :: r, .bool c :: s => b == c && zeroFits r s
  | .nilp :: r, .pointer none :: s => zeroFits r s
  | .nilsl :: r, .slice _ 0 0 :: s => zeroFits r s
  | _, _ => false

def tyOfDesc (P : Program) (E : Nat) (T : Ty) : Bool := (P.info? E).any fun i => i.size == T.sz

/-- The kinds of the cells of a type of whole numbers and bools (none: a bool); fields one behind the other, none hidden by '_'. -/
def flatFs (P : Program) (g : Nat → Option (List (Option IntKind))) : List Field → List (Option IntKind) → Option (List (Option IntKind))
  | [], acc => some acc
  | f :: r, acc => if f.name ≠ "_" ∧ f.offset = acc.length then (match g f.type with
      | some ks => if P.cellsOf f.type = ks.length ∧ 0 < ks.length then flatFs P g r (acc ++ ks) else none
      | none => none)
    else none

def flatK (P : Program) : Nat → Nat → Option (List (Option IntKind))
  | 0, _ => none
  | d + 1, t => match P.underlying t with
    | some (.int k) => some [some k]
    | some .bool => some [none]
    | some (.struct fs) => if P.stoodInHeld t = true then none else flatFs P (flatK P d) fs.toList []
    | _ => none

def kindsOf : List SV → List (Option IntKind)
  | [] => []
  | .int k _ :: r => some k :: kindsOf r
  | _ :: r => none :: kindsOf r

def zNilsl : List SV → Bool
  | [.nilsl] => true
  | _ => false
def zInt : List SV → Bool
  | [.int _ _] => true
  | _ => false
def zBool : List SV → Bool
  | [.bool _] => true
  | _ => false
def zNilp : List SV → Bool
  | [.nilp] => true
  | _ => false

def typeOk (P : Program) (t : Nat) (i : TI) : Bool :=
  match P.info? t, P.underlying t with
  | some n, some u => n.size == i.size && n.bytes == i.bytes && i.zero.length == i.size &&
      (match n.zero with
        | some z => zeroFits i.zero z.cells.toList && (match z with
          | .agg _ => i.agg
          | _ => !i.agg)
        | none => false) &&
      (match u with
        | .struct fs => i.agg && (fs.toList.map fun f => (f.offset, P.cellsOf f.type)) == i.fields && fs.toList.all (fun f => 0 < P.cellsOf f.type && P.info? f.type matches some _) && i.ty.isNone && i.kind.isNone &&
            (!i.flat || (flatK P 6 t == some (kindsOf i.zero) && !P.eqGuardType P.depth t))
        | .slice e => !i.agg && i.elem == e && (match i.ty with
            | some T => tyOfDesc P e T
            | none => false) && i.kind.isNone && i.fields.isEmpty && !i.flat && zNilsl i.zero
        | .int k => !i.agg && i.kind == some k && i.ty.isNone && i.fields.isEmpty && !i.flat && zInt i.zero
        | .bool => !i.agg && i.kind.isNone && i.ty.isNone && i.fields.isEmpty && !i.flat && zBool i.zero
        | .pointer _ => !i.agg && i.kind.isNone && i.ty.isNone && i.fields.isEmpty && !i.flat && zNilp i.zero
        | _ => false)
  | _, _ => false

def typesOk (P : Program) (l : List (Nat × TI)) : Bool := l.all fun (t, i) => typeOk P t i

theorem look_mem {α : Type} : ∀ {l : List (Nat × α)} {d : Nat} {x : α}, look l d = some x → (d, x) ∈ l
  | (n, y) :: r, d, x, h => by
    unfold look at h
    cases e : Nat.beq n d with
    | true =>
      have hn : n = d := Nat.eq_of_beq_eq_true e
      simp only [e] at h
      cases h
      subst hn
      exact List.mem_cons_self
    | false =>
      simp only [e] at h
      exact List.mem_cons_of_mem _ (look_mem h)

/-- The table says of each type what the program says. -/
def TabOk (P : Program) (tt : Types) : Prop := ∀ t i, tt t = some i → typeOk P t i = true

theorem tabOk_of {P : Program} {l : List (Nat × TI)} (h : typesOk P l = true) : TabOk P (look l) := fun t i hi => by
  have := List.all_eq_true.1 h _ (look_mem hi)
  exact this

end Go.Proofs.YtdhbkcaaijgocaaGreat.Sym

namespace Go.Proofs.YtdhbkcaaijgocaaGreat.Sym
open Go
set_option linter.unusedVariables false
set_option linter.unusedSimpArgs false

def Does (P : Program) (o : Oper) (a : Act) (w : World) (R : Value → World → Prop) : Prop :=
  (∃ v w', (execOp a.eval o).run P w = .ok (.value v) w' ∧ R v w') ∨
  (∃ w', (execOp a.eval o).run P w = .ok .skip w' ∧ R undef w') ∨
  (∃ f args, (execOp a.eval o).run P w = .ok (.enter f args) w ∧ Calls P f args w fun e w' => ∃ v, e = .returned v ∧ R v w')

theorem Does.wp {P : Program} {o : Oper} {a : Act} {w : World} {R : Value → World → Prop} (h : Does P o a w R) {K : Act → World → Prop} {Q : Exit → Act → World → Prop}
    (hk : ∀ v w', R v w' → K (a.put o.dst v) w') : o.wp P a w K Q := by
  unfold Oper.wp
  rcases h with ⟨v, w', hr, hR⟩ | ⟨w', hr, hR⟩ | ⟨f, args, hr, hc⟩
  · rw [hr]; exact hk _ _ hR
  · rw [hr]; exact hk _ _ hR
  · rw [hr]
    refine hc.mono ?_
    rintro e w'' ⟨v, rfl, hR⟩
    exact hk _ _ hR

/-- What is shown of an operation. -/
def Good (P : Program) (wr : Nat → Prop) (env : Env) (H : Hp) (a : Act) (w : World) (o : Oper) (δ : Delta) : Prop :=
  Does P o a w fun v w' => ∃ env', Ext env H env' (updH H δ.hs) ∧ HRel wr env' (updH H δ.hs) w' ∧ Fr wr w w' ∧ conc env' (updH H δ.hs) δ.v v

theorem updH_nil (H : Hp) : updH H [] = H := by funext n; simp [updH, look]

theorem good_pure {P : Program} {wr : Nat → Prop} {env : Env} {H : Hp} {a : Act} {w : World} {o : Oper} {p : Option Prop} {s : SV} {v : Value}
    (hh : HRel wr env H w) (hr : (execOp a.eval o).run P w = .ok (.value v) w) (hc : conc env H s v) : Good P wr env H a w o ⟨p, s, []⟩ :=
  .inl ⟨v, w, hr, env, by rw [updH_nil]; exact ⟨.refl _ _, hh, .refl _ _, hc⟩⟩

theorem cst1_ok (env : Env) (H : Hp) (v : Value) : concC env H (cst1 v) v := by
  unfold cst1
  split <;> simp [concC]

theorem csts_ok (env : Env) (H : Hp) : ∀ vs : List Value, concCs env H (vs.map cst1) vs
  | [] => trivial
  | v :: r => ⟨cst1_ok env H v, csts_ok env H r⟩

theorem conc_of_conc2 {env : Env} {H : Hp} {s : SV} {v : Value} (h : conc2 env H s v) : conc env H s v := by
  cases s <;> first | exact h | (simp [conc2, concC] at h)

theorem conc2_of_concC {env : Env} {H : Hp} {s : SV} {v : Value} (h : concC env H s v) : conc2 env H s v := by
  cases s <;> first | exact h | (simp [concC] at h)

theorem conc_of_concC {env : Env} {H : Hp} {s : SV} {v : Value} (h : concC env H s v) : conc env H s v := conc_of_conc2 (conc2_of_concC h)

theorem cst_ok (env : Env) (H : Hp) (v : Value) : conc env H (cst v) v := by
  unfold cst
  split
  · rename_i cs
    exact ⟨cs, rfl, csts_ok env H cs.toList⟩
  · exact conc_of_concC (cst1_ok env H v)

section
variable {α : Type} {T : Nat → SV} {H : Hp} {env : Env} {a : Act}

theorem opv_inv (hs : ∀ d, conc env H (T d) (a.tmps.getD d undef)) {x : Operand} {k : SV → RM α} {r : α} (h : (opv x k).run T H = some r) :
    ∃ s, (k s).run T H = some r ∧ conc env H s (a.eval x) := by
  cases x with
  | tmp t => exact ⟨T t, h, hs t⟩
  | const v => exact ⟨_, h, cst_ok env H v⟩
  | func f => exact ⟨_, h, rfl⟩
  | global g => simp [opv, RM.run] at h

def concL (env : Env) (H : Hp) : List SV → List Value → Prop
  | [], [] => True
  | c :: cs, v :: vs => conc env H c v ∧ concL env H cs vs
  | _, _ => False

theorem opvs_inv (hs : ∀ d, conc env H (T d) (a.tmps.getD d undef)) : ∀ {xs : List Operand} {k : List SV → RM α} {r : α}, (opvs xs k).run T H = some r →
    ∃ ss, (k ss).run T H = some r ∧ concL env H ss (xs.map a.eval)
  | [], k, r, h => ⟨[], h, trivial⟩
  | x :: xs, k, r, h => by
    obtain ⟨s, h, hc⟩ := opv_inv hs h
    obtain ⟨ss, h, hcs⟩ := opvs_inv hs h
    exact ⟨s :: ss, h, hc, hcs⟩

theorem tiOf_inv {tt : Types} {t : Nat} {k : TI → RM α} {r : α} (h : (tiOf tt t k).run T H = some r) : ∃ i, tt t = some i ∧ (k i).run T H = some r := by
  unfold tiOf at h
  split at h
  · exact ⟨_, by assumption, h⟩
  · simp [RM.run] at h
end

theorem conc_int {env : Env} {H : Hp} {k : IntKind} {n : Int} {v : Value} (h : conc env H (.int k n) v) : v = .int k n := h
theorem conc_bool {env : Env} {H : Hp} {b : Bool} {v : Value} (h : conc env H (.bool b) v) : v = .bool b := h

section
variable {P : Program} {wr : Nat → Prop} {env : Env} {H : Hp} {a : Act} {w : World} {T : Nat → SV} {δ : Delta}

theorem move_ok (hh : HRel wr env H w) (hs : ∀ d, conc env H (T d) (a.tmps.getD d undef)) {dst : Option Nat} {x : Operand} {t : Nat} {pos : String} {af : Array Edge} {g : Option (Nat × Bool)}
    (h : (opv x ret1).run T H = some δ) : Good P wr env H a w ⟨dst, .move x, t, pos, af, g⟩ δ ∧ Good P wr env H a w ⟨dst, .assign x, t, pos, af, g⟩ δ := by
  obtain ⟨s, h, hc⟩ := opv_inv hs h
  simp only [ret1, RM.run, Option.some.injEq] at h
  subst h
  exact ⟨good_pure hh rfl hc, good_pure hh rfl hc⟩

theorem pick_ok (hh : HRel wr env H w) (hs : ∀ d, conc env H (T d) (a.tmps.getD d undef)) {S : Tab} {tt : Types} {d : Nat} {c x y : Operand} {t : Nat} {pos : String} {af : Array Edge} {g : Option (Nat × Bool)}
    (h : (evOp tt S ⟨some d, .pick c x y, t, pos, af, g⟩).run T H = some δ) : Good P wr env H a w ⟨some d, .pick c x y, t, pos, af, g⟩ δ := by
  simp only [evOp] at h
  obtain ⟨s, h, hc⟩ := opv_inv hs h
  cases s <;> simp only [RM.run, reduceCtorEq] at h
  rename_i b
  have hb := conc_bool hc
  cases b <;> simp only at h <;> obtain ⟨s, h, hx⟩ := opv_inv hs h <;> simp only [ret1, RM.run, Option.some.injEq] at h <;> subst h <;>
    exact good_pure hh (by simp [execOp, hb, asBool, bind, Sem.bind, pure]) hx

end

end Go.Proofs.YtdhbkcaaijgocaaGreat.Sym

namespace Go.Proofs.YtdhbkcaaijgocaaGreat.Sym
open Go
set_option linter.unusedVariables false
set_option linter.unusedSimpArgs false

section
variable {P : Program} {wr : Nat → Prop} {env : Env} {H : Hp} {a : Act} {w : World} {T : Nat → SV} {δ : Delta}

theorem run_guard_int (op : BinOp) (t : TypeId) (x y : Operand) (k j : IntKind) (m n : Int) : (eqGuard op t x y (.int k m) (.int j n)).run P w = .ok () w := by
  cases op <;> simp [eqGuard]
theorem run_guard_bool (op : BinOp) (t : TypeId) (x y : Operand) (m n : Bool) : (eqGuard op t x y (.bool m) (.bool n)).run P w = .ok () w := by
  cases op <;> simp [eqGuard]

theorem kindEq_eq {j k : IntKind} (h : kindEq j k = true) : j = k := by cases j <;> cases k <;> first | rfl | cases h

theorem isCst_of {x : Operand} : isCst x = true ∨ isCst x = false := by cases isCst x <;> simp

theorem arith_ok (hh : HRel wr env H w) {op : BinOp} {cy : Bool} {k : IntKind} {m n : Int} {o : Oper}
    (hr : ∀ v, (binOp op 0 (.int k m) (.int k n)).run P w = .ok v w → (execOp a.eval o).run P w = .ok (.value v) w)
    (h : (arith op cy k m n).run T H = some δ) (hp : ∀ p, δ.ok = some p → p) : Good P wr env H a w o δ := by
  cases op <;> simp only [arith, ret1, retc, RM.run, Option.some.injEq, reduceCtorEq] at h
  case quo =>
    cases cy <;> simp only [RM.run, Option.some.injEq] at h
    · subst h
      have hn : n ≠ 0 := hp _ rfl
      exact good_pure hh (hr _ (by simp [binOp, Op.intDiv, hn])) rfl
    · cases hn : n == 0 <;> simp only [hn, RM.run, Option.some.injEq, reduceCtorEq] at h
      subst h
      have hn' : n ≠ 0 := by simpa using hn
      exact good_pure hh (hr _ (by simp [binOp, Op.intDiv, hn'])) rfl
  case rem =>
    cases cy <;> simp only [RM.run, Option.some.injEq] at h
    · subst h
      have hn : n ≠ 0 := hp _ rfl
      exact good_pure hh (hr _ (by simp [binOp, Op.intDiv, hn])) rfl
    · cases hn : n == 0 <;> simp only [hn, RM.run, Option.some.injEq, reduceCtorEq] at h
      subst h
      have hn' : n ≠ 0 := by simpa using hn
      exact good_pure hh (hr _ (by simp [binOp, Op.intDiv, hn'])) rfl
  case shr =>
    cases cy <;> cases hn : n == 1 <;> simp only [hn, RM.run, Option.some.injEq, reduceCtorEq] at h
    subst h
    have hn' : n = 1 := by simpa using hn
    subst hn'
    have hb : min 1 k.bits = 1 := by cases k <;> rfl
    exact good_pure hh (hr _ (by simp [binOp, Op.shift, hb])) rfl
  all_goals
    subst h
    exact good_pure hh (hr _ (by simp [binOp, Op.intArith, Op.intBits, Op.intCmp])) rfl

def eqV : List SV → List SV → Bool
  | .int _ a :: r, .int _ b :: s => (a == b) && eqV r s
  | .bool a :: r, .bool b :: s => (a == b) && eqV r s
  | _, _ => true

theorem eqCells_eqV : ∀ {xs ys : List SV} {b : Bool}, eqCells xs ys = some b → b = eqV xs ys
  | [], [], b, h => by simp [eqCells] at h; simp [eqV, h]
  | .int j a :: r, .int k c :: s, b, h => by
    unfold eqCells at h
    split at h
    · simp at h; simp [eqV, h]
    · cases e : eqCells r s with
      | none => simp [e] at h
      | some t =>
        simp [e] at h
        rw [← h, eqCells_eqV e]
        rfl
  | .bool a :: r, .bool c :: s, b, h => by
    unfold eqCells at h
    split at h
    · simp at h; simp [eqV, h]
    · cases e : eqCells r s with
      | none => simp [e] at h
      | some t =>
        simp [e] at h
        rw [← h, eqCells_eqV e]
        rfl

/-- Cells of such kinds. -/
def TyK : List (Option IntKind) → List SV → Prop
  | [], [] => True
  | some k :: r, .int j _ :: s => j = k ∧ TyK r s
  | none :: r, .bool _ :: s => TyK r s
  | _, _ => False

theorem tyK_of {zs : List SV} : ∀ {xs : List SV}, sameKinds zs xs = true → TyK (kindsOf zs) xs := by
  induction zs with
  | nil => intro xs h; cases xs <;> first | trivial | (cases h)
  | cons z r ih =>
    intro xs h
    cases z <;> cases xs <;> try (cases h)
    · rename_i k n x s
      cases x <;> try (cases h)
      rename_i j m
      simp only [sameKinds] at h
      cases e : kindEq k j with
      | false => simp [e] at h
      | true =>
        simp only [e] at h
        exact ⟨(kindEq_eq e).symm, ih h⟩
    · rename_i b x s
      cases x <;> try (cases h)
      exact ih (by simpa [sameKinds] using h)

theorem TyK.length : ∀ {ks : List (Option IntKind)} {xs : List SV}, TyK ks xs → xs.length = ks.length
  | [], [], _ => rfl
  | some _ :: _, .int _ _ :: _, h => by simp [TyK.length h.2]
  | none :: r, .bool _ :: s, h => by simp [TyK.length (ks := r) (xs := s) h]

theorem TyK.append : ∀ {k1 k2 : List (Option IntKind)} {xs : List SV}, TyK (k1 ++ k2) xs → TyK k1 (xs.take k1.length) ∧ TyK k2 (xs.drop k1.length)
  | [], k2, xs, h => ⟨by simp [TyK], h⟩
  | some k :: r, k2, .int j n :: s, h => by
    obtain ⟨h1, h2⟩ := TyK.append (k1 := r) (k2 := k2) (xs := s) h.2
    exact ⟨⟨h.1, h1⟩, h2⟩
  | none :: r, k2, .bool b :: s, h => TyK.append (k1 := r) (k2 := k2) (xs := s) h
  | some k :: r, k2, [], h => h.elim
  | none :: r, k2, [], h => h.elim

theorem eqV_append : ∀ {ks : List (Option IntKind)} {xs ys : List SV} {us vs : List SV}, TyK ks xs → TyK ks ys → eqV (xs ++ us) (ys ++ vs) = (eqV xs ys && eqV us vs)
  | [], [], [], us, vs, _, _ => by simp [eqV]
  | some _ :: r, .int _ a :: s, .int _ b :: t, us, vs, h, g => by
    simp only [List.cons_append, eqV, eqV_append (us := us) (vs := vs) h.2 g.2, Bool.and_assoc]
  | none :: r, .bool a :: s, .bool b :: t, us, vs, h, g => by
    simp only [List.cons_append, eqV, eqV_append (ks := r) (us := us) (vs := vs) h g, Bool.and_assoc]

def aggDesc : TypeDesc → Bool
  | .struct _ => true
  | .array _ _ => true
  | _ => false

theorem run_isAgg {t : TypeId} {u : TypeDesc} (h : P.underlying t = some u) : (isAgg t).run P w = .ok (aggDesc u) w := by
  unfold isAgg
  simp only [Sem.run_bind, run_underlying h, Result.andThen_ok]
  cases u <;> rfl

def valOf (g : Bool) (xs : List SV) : Value := match g with
  | true => .agg (xs.map svl).toArray
  | false => svl (xs.headD .any)

theorem sizeOf_run {t : TypeId} {n : Nat} (h : P.cellsOf t = n) (h0 : 0 < n) : (sizeOf t).run P w = .ok n w := by
  unfold Program.cellsOf at h
  cases e : P.info? t with
  | none => simp [e] at h; omega
  | some i => simp [e] at h; simp [sizeOf, typeInfo, e, h]

theorem flatK_pos {d t : Nat} {ks : List (Option IntKind)} (h : flatK P d t = some ks) : ∃ u, P.underlying t = some u ∧ (aggDesc u = false → ks.length = 1) := by
  cases d with
  | zero => simp [flatK] at h
  | succ d =>
    unfold flatK at h
    split at h
    · rename_i k hu; cases h; exact ⟨_, hu, fun _ => rfl⟩
    · rename_i hu; cases h; exact ⟨_, hu, fun _ => rfl⟩
    · rename_i fs hu; exact ⟨_, hu, fun q => by simp [aggDesc] at q⟩
    · cases h

end

section
variable {P : Program}

theorem run_part {t : TypeId} {u : TypeDesc} {w : World} {xs : List SV} {o n : Nat} (hu : P.underlying t = some u) (hc : P.cellsOf t = n) (h0 : 0 < n) (hn : aggDesc u = false → n = 1) (hl : o + n ≤ xs.length) :
    (part t (xs.map svl).toArray o).run P w = .ok (valOf (aggDesc u) ((xs.drop o).take n)) w := by
  unfold part
  simp only [Sem.run_bind, run_isAgg hu, Result.andThen_ok, Sem.run_ite]
  cases e : aggDesc u with
  | true =>
    simp only [if_true, sizeOf_run hc h0, Result.andThen_ok, Sem.run_pure]
    congr 2
    apply Array.ext'
    simp [List.map_take, List.map_drop]
  | false =>
    have h1 := hn e
    subst h1
    have : o < xs.length := by omega
    simp only [Bool.false_eq_true, if_false]
    have hg : (xs.map svl).toArray[o]? = some (svl xs[o]) := by simp [this]
    rw [hg]
    simp only [Sem.run_pure, valOf]
    congr 2
    rw [List.drop_eq_getElem_cons this]
    rfl

theorem eqFields_flat (d D : Nat) (ih : ∀ t ks, flatK P d t = some ks → ∀ (w : World) xs ys, TyK ks xs → TyK ks ys → ∀ u, P.underlying t = some u → (Op.equalIn D t (valOf (aggDesc u) xs) (valOf (aggDesc u) ys)).run P w = .ok (eqV xs ys) w) :
    ∀ (fs : List Field) (acc ks : List (Option IntKind)), flatFs P (flatK P d) fs acc = some ks → ∀ (w : World) (xs ys : List SV), TyK ks xs → TyK ks ys →
      (Op.eqFields D (xs.map svl).toArray (ys.map svl).toArray fs).run P w = .ok (eqV (xs.drop acc.length) (ys.drop acc.length)) w
  | [], acc, ks, h, w, xs, ys, hx, hy => by
    simp only [flatFs, Option.some.injEq] at h
    subst h
    rw [List.drop_eq_nil_of_le (by rw [hx.length]; exact Nat.le_refl _), List.drop_eq_nil_of_le (by rw [hy.length]; exact Nat.le_refl _)]
    simp [Op.eqFields, eqV]
  | f :: r, acc, ks, h, w, xs, ys, hx, hy => by
    unfold flatFs at h
    split at h
    case isFalse => cases h
    rename_i hf
    split at h
    case h_2 => cases h
    rename_i kf hkf
    split at h
    case isFalse => cases h
    rename_i hcell'
    obtain ⟨hcell, hpos⟩ := hcell'
    obtain ⟨u, hu, hone⟩ := flatK_pos hkf
    have key : ∀ (fs : List Field) (acc ks : List (Option IntKind)), flatFs P (flatK P d) fs acc = some ks → ∃ z, ks = acc ++ z := by
      intro fs
      induction fs with
      | nil => intro acc ks h; simp only [flatFs, Option.some.injEq] at h; exact ⟨[], by simp [h]⟩
      | cons f r ih' =>
        intro acc ks h
        unfold flatFs at h
        split at h
        case isFalse => cases h
        split at h
        case h_2 => cases h
        split at h
        case isFalse => cases h
        obtain ⟨z, hz⟩ := ih' _ _ h
        exact ⟨_, by rw [hz, List.append_assoc]⟩
    obtain ⟨z, hz⟩ := key _ _ _ h
    have hx' := hx
    have hy' := hy
    rw [hz, List.append_assoc] at hx' hy'
    have ax := (TyK.append hx').2
    have ay := (TyK.append hy').2
    have bx := (TyK.append ax).1
    have by' := (TyK.append ay).1
    have lx := hx.length
    have ly := hy.length
    rw [hz] at lx ly
    simp only [List.length_append] at lx ly
    have px := run_part (w := w) (xs := xs) (o := f.offset) hu hcell hpos hone (by rw [hf.2]; omega)
    have py := run_part (w := w) (xs := ys) (o := f.offset) hu hcell hpos hone (by rw [hf.2]; omega)
    have he := ih _ _ hkf w _ _ bx by' u hu
    rw [← hf.2] at he
    have hrec := eqFields_flat d D ih r (acc ++ kf) ks h w xs ys hx hy
    simp only [Op.eqFields]
    rw [if_pos hf.1]
    simp only [Sem.run_bind, px, py, Result.andThen_ok, he, Sem.run_ite, Sem.run_pure, hrec]
    have sx : xs.drop acc.length = (xs.drop acc.length).take kf.length ++ xs.drop (acc ++ kf).length := by
      conv => lhs; rw [← List.take_append_drop kf.length (xs.drop acc.length)]
      rw [List.drop_drop, List.length_append]
    have sy : ys.drop acc.length = (ys.drop acc.length).take kf.length ++ ys.drop (acc ++ kf).length := by
      conv => lhs; rw [← List.take_append_drop kf.length (ys.drop acc.length)]
      rw [List.drop_drop, List.length_append]
    rw [hf.2, sx, sy, eqV_append bx by']
    simp only [← sx, ← sy]
    cases eqV ((xs.drop acc.length).take kf.length) ((ys.drop acc.length).take kf.length) <;> simp

theorem equalIn_flat : ∀ (d D : Nat), d ≤ D → ∀ t ks, flatK P d t = some ks → ∀ (w : World) xs ys, TyK ks xs → TyK ks ys → ∀ u, P.underlying t = some u →
    (Op.equalIn D t (valOf (aggDesc u) xs) (valOf (aggDesc u) ys)).run P w = .ok (eqV xs ys) w
  | 0, _, _, _, _, h, _, _, _, _, _, _, _ => by simp [flatK] at h
  | d + 1, 0, hd, _, _, _, _, _, _, _, _, _, _ => by omega
  | d + 1, D + 1, hd, t, ks, h, w, xs, ys, hx, hy, u, hu => by
    unfold flatK at h
    split at h
    · rename_i k hk
      rw [hk] at hu
      cases hu
      cases h
      cases xs with
      | nil => exact hx.elim
      | cons x r =>
        cases ys with
        | nil => exact hy.elim
        | cons y s =>
          cases x <;> try exact hx.elim
          cases y <;> try exact hy.elim
          cases r <;> try exact hx.2.elim
          cases s <;> try exact hy.2.elim
          rename_i k1 a k2 b
          have h1 : k1 = k := hx.1
          have h2 : k2 = k := hy.1
          subst h1
          subst h2
          simp only [aggDesc, valOf, List.headD, svl]
          rw [run_equalIn_int w D t k2 k2 a b hk]
          simp [eqV]
    · rename_i hk
      rw [hk] at hu
      cases hu
      cases h
      cases xs with
      | nil => exact hx.elim
      | cons x r =>
        cases ys with
        | nil => exact hy.elim
        | cons y s =>
          cases x <;> try exact hx.elim
          cases y <;> try exact hy.elim
          cases r <;> try exact hx.elim
          cases s <;> try exact hy.elim
          rename_i a b
          simp only [aggDesc, valOf, List.headD, svl]
          rw [run_equalIn_bool' w D t a b hk]
          simp [eqV]
    · rename_i fs hk
      rw [hk] at hu
      cases hu
      split at h
      case isTrue => cases h
      rename_i hs
      have hf : P.fieldsOf t = fs := by simp [Program.fieldsOf, hk]
      simp only [aggDesc, valOf]
      rw [run_equalIn_struct w D t _ _ (by rw [hk, hf]) (by simpa using hs), hf]
      have := eqFields_flat d D (fun t ks h => equalIn_flat d D (by omega) t ks h) fs.toList [] ks h w xs ys hx hy
      simpa using this
    · cases h

variable {wr : Nat → Prop} {env : Env} {H : Hp} {a : Act} {w : World} {T : Nat → SV} {δ : Delta}

theorem concCs_svl {ks : List (Option IntKind)} : ∀ {xs : List SV} {vs : List Value}, TyK ks xs → concCs env H xs vs → vs = xs.map svl := by
  induction ks with
  | nil =>
    intro xs vs h hc
    cases xs with
    | nil => cases vs with
      | nil => rfl
      | cons _ _ => exact hc.elim
    | cons _ _ => exact h.elim
  | cons k r ih =>
    intro xs vs h hc
    cases xs with
    | nil => cases k <;> exact h.elim
    | cons x s =>
      cases vs with
      | nil => exact hc.elim
      | cons v t =>
        cases k with
        | some k =>
          cases x <;> try exact h.elim
          have h1 : v = _ := hc.1
          rw [h1, ih h.2 hc.2]
          rfl
        | none =>
          cases x <;> try exact h.elim
          have h1 : v = _ := hc.1
          have h2 : TyK r s := h
          rw [h1, ih h2 hc.2]
          rfl

theorem typeOk_flat {t : Nat} {i : TI} (h : typeOk P t i = true) (hf : i.flat = true) :
    flatK P 6 t = some (kindsOf i.zero) ∧ P.eqGuardType P.depth t = false ∧ ∃ fs, P.underlying t = some (.struct fs) := by
  unfold typeOk at h
  split at h
  case h_2 => cases h
  rename_i n u hn hu
  simp only [Bool.and_eq_true] at h
  obtain ⟨_, h⟩ := h
  split at h
  · rename_i fs
    simp only [Bool.and_eq_true, Bool.or_eq_true, Bool.not_eq_true', hf, false_or, Bool.true_eq_false, beq_iff_eq] at h
    exact ⟨h.2.1, h.2.2, fs, hu⟩
  all_goals simp [hf] at h

theorem typeOk_bool {t : Nat} {i : TI} (h : typeOk P t i = true) (ha : i.agg = false) {b : Bool} (hz : i.zero = [.bool b]) : P.underlying t = some .bool := by
  unfold typeOk at h
  split at h
  case h_2 => cases h
  rename_i n u hn hu
  simp only [Bool.and_eq_true] at h
  obtain ⟨_, h⟩ := h
  split at h
  case h_4 => exact hu
  all_goals simp [ha, hz, zNilsl, zInt, zNilp] at h

theorem bin_ok (hh : HRel wr env H w) (hs : ∀ d, conc env H (T d) (a.tmps.getD d undef)) {tt : Types} (ht : TabOk P tt) {S : Tab} {d : Nat} {op : BinOp} {x y : Operand} {t u : Nat} {ty : Nat} {pos : String} {af : Array Edge} {g : Option (Nat × Bool)}
    (h : (evOp tt S ⟨some d, .binOp op t x y u, ty, pos, af, g⟩).run T H = some δ) (hp : ∀ p, δ.ok = some p → p) : Good P wr env H a w ⟨some d, .binOp op t x y u, ty, pos, af, g⟩ δ := by
  simp only [evOp] at h
  obtain ⟨s1, q, h1⟩ := opv_inv hs h
  clear h
  obtain ⟨s2, h, h2⟩ := opv_inv hs q
  clear q
  obtain ⟨i, hi, q⟩ := tiOf_inv h
  clear h
  unfold bin at q
  split at q
  · rename_i k m j n
    split at q
    case h_2 => simp [RM.run] at q
    rename_i hk
    have := kindEq_eq hk
    subst this
    have e1 := conc_int h1
    have e2 := conc_int h2
    refine arith_ok hh ?_ q hp
    intro v hv
    have hv' : (binOp op t (.int k m) (.int k n)).run P w = .ok v w := by
      rw [← hv]
      cases op <;> rfl
    simp [execOp, e1, e2, run_guard_int, hv']
  · rename_i b c
    have e1 := conc_bool h1
    have e2 := conc_bool h2
    split at q
    case h_2 => simp [RM.run] at q
    rename_i z hz ha
    have hu := typeOk_bool (ht _ _ hi) hz ha
    cases op <;> simp only [ret1, RM.run, Option.some.injEq, reduceCtorEq] at q
    all_goals
      subst q
      exact good_pure hh (by simp [execOp, e1, e2, run_guard_bool, binOp, Op.equal, Op.maxDepth, run_equalIn_bool' w 9999 t b c hu]) rfl
  · rename_i xs ys
    unfold aggEq at q
    split at q
    case h_2 => simp [RM.run] at q
    rename_i b hf hx hy he
    obtain ⟨xv, e1, c1⟩ := h1
    obtain ⟨yv, e2, c2⟩ := h2
    obtain ⟨hk, hg, fs, hu⟩ := typeOk_flat (ht _ _ hi) hf
    have k1 := tyK_of hx
    have k2 := tyK_of hy
    have v1 := concCs_svl k1 c1
    have v2 := concCs_svl k2 c2
    have := equalIn_flat 6 10000 (by omega) t _ hk w xs ys k1 k2 _ hu
    simp only [valOf, aggDesc, ← v1, ← v2, Array.toArray_toList] at this
    have hb := eqCells_eqV he
    subst hb
    cases op <;> simp only [ret1, RM.run, Option.some.injEq, reduceCtorEq] at q
    · subst q
      exact good_pure hh (by simp [execOp, e1, e2, run_eqGuard_agg w _ _ _ _ _ _ hg, run_eql_struct, this]) rfl
    · subst q
      exact good_pure hh (by simp [execOp, e1, e2, run_eqGuard_agg w _ _ _ _ _ _ hg, run_neq_struct, this]) rfl
  · simp [RM.run] at q

end

end Go.Proofs.YtdhbkcaaijgocaaGreat.Sym

namespace Go.Proofs.YtdhbkcaaijgocaaGreat.Sym
open Go
set_option linter.unusedVariables false
set_option linter.unusedSimpArgs false

section
variable {P : Program} {wr : Nat → Prop} {env : Env} {H : Hp} {a : Act} {w : World} {T : Nat → SV} {δ : Delta}

theorem retO_inv {v : Option SV} (h : (retO v).run T H = some δ) : ∃ s, v = some s ∧ δ = ⟨none, s, []⟩ := by
  cases v with
  | none => simp [retO, RM.run] at h
  | some s => simp only [retO, ret1, RM.run, Option.some.injEq] at h; exact ⟨s, rfl, h.symm⟩

theorem conc2s_get : ∀ {vs : List SV} {us : List Value} {i : Nat} {s : SV}, conc2s env H vs us → vs[i]? = some s → ∃ u, us[i]? = some u ∧ conc2 env H s u
  | [], _, i, s, _, h => by simp at h
  | v :: r, [], i, s, h, _ => h.elim
  | v :: r, u :: t, 0, s, h, hi => by
    simp only [List.getElem?_cons_zero, Option.some.injEq] at hi
    subst hi
    exact ⟨u, rfl, h.1⟩
  | v :: r, u :: t, i + 1, s, h, hi => by
    simp only [List.getElem?_cons_succ] at hi
    obtain ⟨u', hu, hc⟩ := conc2s_get h.2 hi
    exact ⟨u', by simpa using hu, hc⟩

/-- A name whose block still stands. -/
def Live (H : Hp) (j : Nat) : Prop := (∃ r cs, H j = some (r, .box cs)) ∨ ∃ r T xs, H j = some (r, .vec T xs)

theorem alive_inv {α : Type} {j : Nat} {k : RM α} {r : α} (h : (alive j k).run T H = some r) : k.run T H = some r ∧ Live H j := by
  simp only [alive, RM.run] at h
  split at h
  · exact ⟨h, .inl ⟨_, _, by assumption⟩⟩
  · exact ⟨h, .inr ⟨_, _, _, by assumption⟩⟩
  · simp [RM.run] at h

theorem ptr_live {j e o : Nat} (h : Live H j) {v : Value} (hc : conc env H (.ptr j e o) v) : ∃ p, v = .pointer (some p) := by
  rcases h with ⟨r, cs, h⟩ | ⟨r, T, xs, h⟩
  · simp only [conc, conc2, concC, h] at hc
    obtain ⟨b, _, e⟩ := hc
    exact ⟨_, e⟩
  · simp only [conc, conc2, concC, h] at hc
    obtain ⟨b, off, _, _, e⟩ := hc
    exact ⟨_, e⟩

theorem un_ok (hh : HRel wr env H w) (hs : ∀ d, conc env H (T d) (a.tmps.getD d undef)) {tt : Types} {S : Tab} {d : Nat} {op : UnOp} {x : Operand} {t : Nat} {ty : Nat} {pos : String} {af : Array Edge} {g : Option (Nat × Bool)}
    (h : (evOp tt S ⟨some d, .unOp op t x, ty, pos, af, g⟩).run T H = some δ) : Good P wr env H a w ⟨some d, .unOp op t x, ty, pos, af, g⟩ δ := by
  simp only [evOp] at h
  obtain ⟨s, q, hc⟩ := opv_inv hs h
  clear h
  unfold un at q
  split at q
  · simp only [ret1, RM.run, Option.some.injEq] at q
    subst q
    have e := conc_int hc
    exact good_pure hh (by simp [execOp, e, Op.unary, Op.intArith]) rfl
  · simp only [ret1, RM.run, Option.some.injEq] at q
    subst q
    have e := conc_bool hc
    exact good_pure hh (by simp [execOp, e, Op.unary]) rfl
  · simp [RM.run] at q

theorem typeOk_int {t : Nat} {i : TI} (h : typeOk P t i = true) {k : IntKind} (hk : i.kind = some k) : P.underlying t = some (.int k) := by
  unfold typeOk at h
  split at h
  case h_2 => cases h
  rename_i n u hn hu
  simp only [Bool.and_eq_true] at h
  obtain ⟨_, h⟩ := h
  split at h
  case h_3 =>
    rename_i k'
    simp only [Bool.and_eq_true, hk, beq_iff_eq, Option.some.injEq] at h
    rw [hu, h.1.1.1.1.2]
  all_goals simp [hk] at h

theorem typeOk_some {t : Nat} {i : TI} (h : typeOk P t i = true) : ∃ n u, P.info? t = some n ∧ P.underlying t = some u ∧ n.size = i.size ∧ n.bytes = i.bytes ∧ i.zero.length = i.size ∧
    ∃ z, n.zero = some z ∧ zeroFits i.zero z.cells.toList = true ∧ (i.agg = true ↔ ∃ c, z = .agg c) := by
  unfold typeOk at h
  split at h
  case h_2 => cases h
  rename_i n u hn hu
  simp only [Bool.and_eq_true, beq_iff_eq] at h
  obtain ⟨⟨⟨⟨h1, h2⟩, h3⟩, h4⟩, _⟩ := h
  split at h4
  case h_2 => cases h4
  rename_i z hz
  refine ⟨n, u, hn, hu, h1, h2, h3, z, hz, ?_⟩
  simp only [Bool.and_eq_true] at h4
  refine ⟨h4.1, ?_⟩
  have := h4.2
  cases z <;> simp_all

theorem typeOk_agg {t : Nat} {i : TI} (h : typeOk P t i = true) : ∃ u, P.underlying t = some u ∧ aggDesc u = i.agg := by
  unfold typeOk at h
  split at h
  case h_2 => cases h
  rename_i n u hn hu
  simp only [Bool.and_eq_true] at h
  obtain ⟨_, h⟩ := h
  refine ⟨u, hu, ?_⟩
  split at h
  all_goals first | (cases h; done) | skip
  all_goals simp only [Bool.and_eq_true, Bool.not_eq_true'] at h
  all_goals simp [aggDesc, h]

theorem convert_ok (hh : HRel wr env H w) (hs : ∀ d, conc env H (T d) (a.tmps.getD d undef)) {tt : Types} (ht : TabOk P tt) {S : Tab} {d : Nat} {x : Operand} {t0 t : Nat} {ty : Nat} {pos : String} {af : Array Edge} {g : Option (Nat × Bool)}
    (h : (evOp tt S ⟨some d, .convert t0 t x, ty, pos, af, g⟩).run T H = some δ) : Good P wr env H a w ⟨some d, .convert t0 t x, ty, pos, af, g⟩ δ := by
  simp only [evOp] at h
  obtain ⟨i0, hi0, q⟩ := tiOf_inv h
  clear h
  obtain ⟨_, u, _, hs0, _⟩ := typeOk_some (ht _ _ hi0)
  obtain ⟨i, hi, h⟩ := tiOf_inv q
  clear q
  obtain ⟨s, q, hc⟩ := opv_inv hs h
  clear h
  have h := q
  clear q
  cases s <;> simp only [RM.run, reduceCtorEq] at h
  rename_i k n
  have e := conc_int hc
  split at h
  case h_2 => simp [RM.run] at h
  rename_i k' hk
  have hu := typeOk_int (ht _ _ hi) hk
  simp only [ret1, RM.run, Option.some.injEq] at h
  subst h
  exact good_pure hh (by simp [execOp, e, convert, run_underlying hs0, run_underlying hu, Conv.intToInt]) rfl

theorem extract_ok (hh : HRel wr env H w) (hs : ∀ d, conc env H (T d) (a.tmps.getD d undef)) {tt : Types} {S : Tab} {d : Nat} {x : Operand} {n : Nat} {ty : Nat} {pos : String} {af : Array Edge} {g : Option (Nat × Bool)}
    (h : (evOp tt S ⟨some d, .extract x n, ty, pos, af, g⟩).run T H = some δ) : Good P wr env H a w ⟨some d, .extract x n, ty, pos, af, g⟩ δ := by
  simp only [evOp] at h
  obtain ⟨s, q, hc⟩ := opv_inv hs h
  clear h
  cases s <;> simp only [RM.run, reduceCtorEq] at q
  obtain ⟨s, hv, rfl⟩ := retO_inv q
  obtain ⟨us, e, hc⟩ := hc
  obtain ⟨u, hu, hcu⟩ := conc2s_get hc hv
  exact good_pure hh (by simp [execOp, e, Instr.extract, show us[n]? = some u by simpa using hu]) (conc_of_conc2 hcu)

theorem nilCheck_ok (hh : HRel wr env H w) (hs : ∀ d, conc env H (T d) (a.tmps.getD d undef)) {tt : Types} {S : Tab} {d : Nat} {x : Operand} {ty : Nat} {pos : String} {af : Array Edge} {g : Option (Nat × Bool)}
    (h : (evOp tt S ⟨some d, .nilCheck x, ty, pos, af, g⟩).run T H = some δ) : Good P wr env H a w ⟨some d, .nilCheck x, ty, pos, af, g⟩ δ := by
  simp only [evOp] at h
  obtain ⟨s, q, hc⟩ := opv_inv hs h
  clear h
  cases s <;> simp only [RM.run, reduceCtorEq] at q
  obtain ⟨hq, ha⟩ := alive_inv q
  simp only [ret1, RM.run, Option.some.injEq] at hq
  subst hq
  obtain ⟨p, e⟩ := ptr_live ha hc
  exact good_pure hh (by simp [execOp, e]) hc

theorem typeOk_field {t : Nat} {i : TI} (h : typeOk P t i = true) {f k n : Nat} (hf : i.fields[f]? = some (k, n)) :
    ∃ fs fd, P.underlying t = some (.struct fs) ∧ fs[f]? = some fd ∧ fd.offset = k ∧ P.cellsOf fd.type = n ∧ 0 < n := by
  unfold typeOk at h
  split at h
  case h_2 => cases h
  rename_i m u hn hu
  simp only [Bool.and_eq_true] at h
  obtain ⟨_, h⟩ := h
  split at h
  case h_1 =>
    rename_i fs
    simp only [Bool.and_eq_true, beq_iff_eq] at h
    obtain ⟨⟨⟨⟨⟨_, h1⟩, h2⟩, _⟩, _⟩, _⟩ := h
    rw [← h1] at hf
    simp only [List.getElem?_map, Option.map_eq_some_iff] at hf
    obtain ⟨fd, hfd, e⟩ := hf
    simp only [Prod.mk.injEq] at e
    have hm := List.all_eq_true.1 h2 fd (List.mem_of_getElem? hfd)
    simp only [Bool.and_eq_true, decide_eq_true_eq] at hm
    exact ⟨fs, fd, hu, by simpa using hfd, e.1, e.2, by rw [← e.2]; exact hm.1⟩
  all_goals first | (simp at h; done) | skip
  all_goals
    simp only [Bool.and_eq_true, List.isEmpty_iff] at h
    have he : i.fields = [] := by simp_all
    simp [he] at hf

theorem add_addr (b o k : Nat) : (⟨b, o, none⟩ : Addr).add k = ⟨b, o + k, none⟩ := by
  unfold Addr.add
  split <;> simp_all

theorem fieldAddr_ok (hh : HRel wr env H w) (hs : ∀ d, conc env H (T d) (a.tmps.getD d undef)) {tt : Types} (ht : TabOk P tt) {S : Tab} {d : Nat} {x : Operand} {t f : Nat} {ty : Nat} {pos : String} {af : Array Edge} {g : Option (Nat × Bool)}
    (h : (evOp tt S ⟨some d, .fieldAddr t x f, ty, pos, af, g⟩).run T H = some δ) : Good P wr env H a w ⟨some d, .fieldAddr t x f, ty, pos, af, g⟩ δ := by
  simp only [evOp] at h
  obtain ⟨i, hi, q⟩ := tiOf_inv h
  clear h
  obtain ⟨s, h, hc⟩ := opv_inv hs q
  clear q
  cases s <;> simp only [RM.run, reduceCtorEq] at h
  rename_i j el o
  obtain ⟨q, ha⟩ := alive_inv h
  clear h
  split at q
  case h_2 => simp [RM.run] at q
  rename_i k n hf
  obtain ⟨fs, fd, hu, hfd, e1, e2, e3⟩ := typeOk_field (ht _ _ hi) hf
  simp only [ret1, RM.run, Option.some.injEq] at q
  subst q
  have hsz : ∀ w, (sizeOf fd.type).run P w = .ok n w := fun w => sizeOf_run e2 e3
  have hn : n ≠ 0 := by omega
  rcases ha with ⟨r, cs, hj⟩ | ⟨r, U, xs, hj⟩
  · simp only [conc, conc2, concC, hj] at hc
    obtain ⟨b, hb, e⟩ := hc
    refine good_pure (v := .pointer (some ⟨b, o + k, none⟩)) hh ?_ ?_
    · simp [execOp, e, Instr.fieldAt, run_underlying hu, hfd, Instr.sureAddr, fieldPlace, hsz, hn, add_addr, e1]
    · simp only [conc, conc2, concC, hj]
      exact ⟨b, hb, rfl⟩
  · simp only [conc, conc2, concC, hj] at hc
    obtain ⟨b, off, hb, hl, e⟩ := hc
    refine good_pure (v := .pointer (some ⟨b, off + el * U.sz + (o + k), none⟩)) hh ?_ ?_
    · simp [execOp, e, Instr.fieldAt, run_underlying hu, hfd, Instr.sureAddr, fieldPlace, hsz, hn, add_addr, e1, Nat.add_assoc]
    · simp only [conc, conc2, concC, hj]
      exact ⟨b, off, hb, hl, rfl⟩

theorem typeOk_slice {t : Nat} {i : TI} (h : typeOk P t i = true) {U : Ty} (hU : i.ty = some U) : P.underlying t = some (.slice i.elem) ∧ ∃ n, P.info? i.elem = some n ∧ n.size = U.sz := by
  unfold typeOk at h
  split at h
  case h_2 => cases h
  rename_i m u hn hu
  simp only [Bool.and_eq_true] at h
  obtain ⟨_, h⟩ := h
  split at h
  case h_2 =>
    simp only [Bool.and_eq_true, beq_iff_eq, hU] at h
    obtain ⟨⟨⟨⟨⟨⟨_, h1⟩, h2⟩, _⟩, _⟩, _⟩, _⟩ := h
    subst h1
    refine ⟨hu, ?_⟩
    simp only [tyOfDesc, Option.any_eq_true, beq_iff_eq] at h2
    obtain ⟨n, h3, h4⟩ := h2
    exact ⟨n, h3, h4⟩
  all_goals simp [hU] at h

theorem tyIs_inv {α : Type} {t : Option Ty} {j : Nat} {k : Nat → RM α} {r : α} (h : (tyIs t j k).run T H = some r) :
    ∃ rw U xs V, H j = some (rw, .vec U xs) ∧ t = some V ∧ V.sz = U.sz ∧ (k xs.length).run T H = some r := by
  simp only [tyIs, RM.run] at h
  split at h
  case h_2 => simp [RM.run] at h
  rename_i rw U xs hj
  split at h
  case h_2 => simp [RM.run] at h
  rename_i V
  split at h
  case h_2 => simp [RM.run] at h
  rename_i hsz
  exact ⟨rw, U, xs, V, hj, rfl, Nat.eq_of_beq_eq_true hsz, h⟩

theorem run_sizeOf {t : Nat} {n : TypeInfo} (h : P.info? t = some n) : (sizeOf t).run P w = .ok n.size w := by simp [sizeOf, typeInfo, h]

/-- Where a list's elements lie. -/
theorem vec_base (hh : HRel wr env H w) {j : Nat} {rw : Bool} {U : Ty} {xs : List U.El} (hj : H j = some (rw, .vec U xs)) (h0 : 0 < xs.length) : ∃ b off, (env j).1 = some ⟨b, off, none⟩ ∧ xs.length ≤ (env j).2 := by
  obtain ⟨hl, h⟩ := hh.blk j rw _ hj
  rcases h with h | ⟨b, off, E, vs, fz, hb, _⟩
  · omega
  · exact ⟨b, off, hb, hl⟩

theorem indexAddr_ok (hh : HRel wr env H w) (hs : ∀ d, conc env H (T d) (a.tmps.getD d undef)) {tt : Types} (ht : TabOk P tt) {S : Tab} {d : Nat} {x y : Operand} {t : Nat} {ty : Nat} {pos : String} {af : Array Edge} {g : Option (Nat × Bool)}
    (h : (evOp tt S ⟨some d, .indexAddr t x y, ty, pos, af, g⟩).run T H = some δ) (hp : ∀ p, δ.ok = some p → p) : Good P wr env H a w ⟨some d, .indexAddr t x y, ty, pos, af, g⟩ δ := by
  simp only [evOp] at h
  obtain ⟨i, hi, q⟩ := tiOf_inv h
  clear h
  obtain ⟨s, h, hc⟩ := opv_inv hs q
  clear q
  obtain ⟨s2, q, hc2⟩ := opv_inv hs h
  clear h
  cases s2 <;> simp only [RM.run, reduceCtorEq] at q
  rename_i k n
  have e2 := conc_int hc2
  split at q
  · rename_i j
    obtain ⟨rw, U, xs, V, hj, hV, hsz, q⟩ := tyIs_inv q
    obtain ⟨hu, m, hm, hms⟩ := typeOk_slice (ht _ _ hi) hV
    simp only [retc, RM.run, Option.some.injEq] at q
    subst q
    have hb := hp _ rfl
    have hlen : 0 < xs.length := by omega
    obtain ⟨b, off, hb1, hb2⟩ := vec_base hh hj hlen
    simp only [conc, conc2, concC, hj] at hc
    refine good_pure (v := .pointer (some ⟨b, off + n.toNat * U.sz, none⟩)) hh ?_ ?_
    · have hc1 : (0 ≤ n ∧ n < (xs.length : Int)) := hb
      simp [execOp, hc, e2, Instr.indexAt, asIntOf, run_underlying hu, hb1, hc1.1, hc1.2, run_sizeOf hm, hms, hsz, add_addr]
    · simp only [conc, conc2, concC, hj]
      exact ⟨b, off, hb1, by omega, by simp⟩
  · rename_i j lo m
    obtain ⟨rw, U, xs, V, hj, hV, hsz, q⟩ := tyIs_inv q
    obtain ⟨hu, m', hm, hms⟩ := typeOk_slice (ht _ _ hi) hV
    simp only [retc, RM.run, Option.some.injEq] at q
    subst q
    have hb := hp _ rfl
    simp only [conc, conc2, concC, hj] at hc
    obtain ⟨hlo, x', hx, hbase⟩ := hc
    have hlen : 0 < xs.length := by omega
    obtain ⟨b, off, hb1, hb2⟩ := vec_base hh hj hlen
    rcases hbase with hbase | hbase
    · omega
    rw [hb1] at hbase
    simp only [Option.map_some, add_addr] at hbase
    subst hbase
    refine good_pure (v := .pointer (some ⟨b, off + lo * U.sz + n.toNat * U.sz, none⟩)) hh ?_ ?_
    · simp [execOp, hx, e2, Instr.indexAt, asIntOf, run_underlying hu, hb.1, hb.2, run_sizeOf hm, hms, hsz, add_addr]
    · simp only [conc, conc2, concC, hj]
      exact ⟨b, off, hb1, by omega, by rw [Nat.add_mul, Nat.add_zero, Nat.add_assoc]⟩
  · simp [RM.run] at q

end

end Go.Proofs.YtdhbkcaaijgocaaGreat.Sym

namespace Go.Proofs.YtdhbkcaaijgocaaGreat.Sym
open Go
set_option linter.unusedVariables false
set_option linter.unusedSimpArgs false

section
variable {P : Program} {wr : Nat → Prop} {env : Env} {H : Hp} {a : Act} {w : World} {T : Nat → SV} {δ : Delta}

theorem concCs_length : ∀ {cs : List SV} {vs : List Value}, concCs env H cs vs → cs.length = vs.length
  | [], [], _ => rfl
  | _ :: r, _ :: s, h => by simp [concCs_length (cs := r) (vs := s) h.2]

theorem concCs_drop : ∀ {n : Nat} {cs : List SV} {vs : List Value}, concCs env H cs vs → concCs env H (cs.drop n) (vs.drop n)
  | 0, _, _, h => h
  | n + 1, [], [], h => h
  | n + 1, _ :: r, _ :: s, h => concCs_drop (n := n) (cs := r) (vs := s) h.2

theorem concCs_take : ∀ {n : Nat} {cs : List SV} {vs : List Value}, concCs env H cs vs → concCs env H (cs.take n) (vs.take n)
  | 0, _, _, _ => by simp [concCs]
  | n + 1, [], [], h => h
  | n + 1, _ :: r, _ :: s, h => ⟨h.1, concCs_take (n := n) (cs := r) (vs := s) h.2⟩

theorem concCs_append : ∀ {cs ds : List SV} {vs us : List Value}, concCs env H cs vs → concCs env H ds us → concCs env H (cs ++ ds) (vs ++ us)
  | [], _, [], _, _, k => k
  | _ :: r, ds, _ :: s, us, h, k => ⟨h.1, concCs_append (cs := r) (vs := s) h.2 k⟩

/-- A plain cell: a number or a bool. -/
def plain : SV → Bool
  | .int _ _ => true
  | .bool _ => true
  | _ => false

theorem conc_plain {c : SV} (h : plain c = true) : concC env H c (svl c) := by cases c <;> first | rfl | (cases h)

theorem concCs_plain : ∀ {cs : List SV}, (∀ c ∈ cs, plain c = true) → concCs env H cs (cs.map svl)
  | [], _ => trivial
  | c :: r, h => ⟨conc_plain (h c (by simp)), concCs_plain fun x hx => h x (by simp [hx])⟩

theorem enc_plain (U : Ty) (x : U.El) : ∀ c ∈ U.enc x, plain c = true := by
  cases U <;> simp [Ty.enc, plain]

theorem enc_length (U : Ty) (x : U.El) : (U.enc x).length = U.sz := by cases U <;> rfl

theorem sz_pos (U : Ty) : 0 < U.sz := by cases U <;> simp [Ty.sz]

theorem shapeOf_inv {g : Bool} {cs : List SV} {s : SV} (h : shapeOf g cs = some s) {vs : List Value} (hc : concCs env H cs vs) :
    conc env H s (if g = true then .agg vs.toArray else vs.headD undef) ∧ (g = false → vs.length = 1) := by
  cases g with
  | true =>
    simp only [shapeOf, Option.some.injEq] at h
    subst h
    exact ⟨⟨vs.toArray, rfl, by simpa using hc⟩, fun q => by cases q⟩
  | false =>
    cases cs with
    | nil => simp [shapeOf] at h
    | cons c r =>
      cases r with
      | cons _ _ => simp [shapeOf] at h
      | nil =>
        simp only [shapeOf, Option.some.injEq] at h
        subst h
        cases vs with
        | nil => exact hc.elim
        | cons v t =>
          cases t with
          | cons _ _ => exact hc.2.elim
          | nil => exact ⟨conc_of_concC hc.1, fun _ => rfl⟩

theorem run_loadAt {t : Nat} {u : TypeDesc} {n : TypeInfo} (hu : P.underlying t = some u) (hn : P.info? t = some n) {b o : Nat} {us : List Value} (hl : us.length = n.size)
    (h1 : aggDesc u = false → us.length = 1) (hc : ∀ j v, us[j]? = some v → w.cell? ⟨b, o + j, none⟩ = some v) :
    (Instr.loadAt t (.pointer (some ⟨b, o, none⟩))).run P w = .ok (if aggDesc u = true then .agg us.toArray else us.headD undef) w := by
  have hc' : ∀ j v, us[j]? = some v → w.cell? ((⟨b, o, none⟩ : Addr).add j) = some v := fun j v h => by rw [add_addr]; exact hc j v h
  simp only [Instr.loadAt, Instr.sureAddr, Sem.run_bind, Sem.run_pure, Result.andThen_ok, loadVar, run_isAgg hu, Sem.run_ite]
  cases e : aggDesc u with
  | true =>
    simp only [if_true, run_sizeOf hn, Result.andThen_ok, ← hl, run_loadCells_list w _ us hc']
  | false =>
    have hu1 := h1 e
    cases us with
    | nil => simp at hu1
    | cons v r =>
      have := hc 0 v rfl
      simp only [Nat.add_zero] at this
      simp [run_load, this]

theorem cell_of {b o : Nat} {vs : Array Value} {E : TypeId} {fz : Nat × Nat} (h : w.heap[b]? = some (.cells vs E fz)) : w.cell? ⟨b, o, none⟩ = vs[o]? := by
  simp [World.cell?, h]

theorem load_run (hh : HRel wr env H w) {tt : Types} (ht : TabOk P tt) {t : Nat} {i : TI} (hi : tt t = some i) {j el o : Nat} {v : Value} (hc : conc env H (.ptr j el o) v)
    (h : (readBlk (H j) el o i.size i.agg).run T H = some δ) : δ.hs = [] ∧ ∃ u, (Instr.loadAt t v).run P w = .ok u w ∧ conc env H δ.v u := by
  obtain ⟨n, u, hn, hu, hsz, _, _, _⟩ := typeOk_some (ht _ _ hi)
  obtain ⟨u', hu', hag⟩ := typeOk_agg (ht _ _ hi)
  rw [hu] at hu'
  cases hu'
  unfold readBlk at h
  split at h
  · rename_i rw cs hj
    split at h
    case h_2 => simp [RM.run] at h
    rename_i hb
    simp only [Bool.and_eq_true] at hb
    have hle : o + i.size ≤ cs.length := Nat.le_of_ble_eq_true hb.2
    obtain ⟨s, hv, rfl⟩ := retO_inv h
    simp only [conc, conc2, concC, hj] at hc
    obtain ⟨b, hb1, e⟩ := hc
    obtain ⟨b', E, vs, fz, hb2, hheap, hcs, _⟩ := hh.blk j rw _ hj
    rw [hb1] at hb2
    cases hb2
    have hlen := concCs_length hcs
    have hus : concCs env H ((cs.drop o).take i.size) ((vs.toList.drop o).take i.size) := concCs_take (concCs_drop hcs)
    obtain ⟨r1, r2⟩ := shapeOf_inv hv hus
    refine ⟨rfl, if i.agg = true then .agg ((vs.toList.drop o).take i.size).toArray else ((vs.toList.drop o).take i.size).headD undef, ?_, r1⟩
    have := run_loadAt (w := w) (b := b) (o := o) (us := (vs.toList.drop o).take i.size) hu hn (by simp; simp at hlen; omega) (by rw [hag]; exact r2) (fun k v hk => by
      rw [cell_of hheap]
      rw [List.getElem?_take] at hk
      split at hk
      · simpa using hk
      · cases hk)
    rw [hag] at this
    rw [e]
    exact this
  · rename_i rw U xs hj
    split at h
    case h_2 => simp [RM.run] at h
    rename_i hb
    have hle : o + i.size ≤ U.sz := Nat.le_of_ble_eq_true hb
    obtain ⟨s, hv, rfl⟩ := retO_inv h
    simp only [conc, conc2, concC, hj] at hc
    obtain ⟨b, off, hb1, hel, e⟩ := hc
    obtain ⟨hl, hcap⟩ := hh.blk j rw _ hj
    rcases hcap with hcap | ⟨b', off', E, vs, fz, hb2, hheap, hsize, hlies, _⟩
    · omega
    rw [hb1] at hb2
    cases hb2
    have henc := enc_length U (U.ix xs el)
    have hus : concCs env H (((U.enc (U.ix xs el)).drop o).take i.size) ((((U.enc (U.ix xs el)).drop o).take i.size).map svl) :=
      concCs_plain fun c hc => enc_plain U _ c (List.mem_of_mem_drop (List.mem_of_mem_take hc))
    obtain ⟨r1, r2⟩ := shapeOf_inv hv hus
    refine ⟨rfl, if i.agg = true then .agg ((((U.enc (U.ix xs el)).drop o).take i.size).map svl).toArray else ((((U.enc (U.ix xs el)).drop o).take i.size).map svl).headD undef, ?_, r1⟩
    have := run_loadAt (w := w) (b := b) (o := off + el * U.sz + o) (us := (((U.enc (U.ix xs el)).drop o).take i.size).map svl) hu hn (by simp; omega) (by rw [hag]; exact r2) (fun k v hk => by
      rw [cell_of hheap, Nat.add_assoc, hlies el hel (o + k) ?_]
      · simp only [List.getElem?_map, Option.map_eq_some_iff] at hk
        obtain ⟨c, hk, rfl⟩ := hk
        rw [List.getElem?_take] at hk
        split at hk
        · simp only [List.getElem?_drop] at hk
          simp [List.getD, hk]
        · cases hk
      · have := List.getElem?_eq_some_iff.1 hk
        obtain ⟨hk, _⟩ := this
        simp at hk
        omega)
    rw [hag] at this
    rw [e]
    exact this
  · simp [RM.run] at h

theorem load_ok (hh : HRel wr env H w) (hs : ∀ d, conc env H (T d) (a.tmps.getD d undef)) {tt : Types} (ht : TabOk P tt) {S : Tab} {d : Nat} {x : Operand} {t : Nat} {ty : Nat} {pos : String} {af : Array Edge} {g : Option (Nat × Bool)}
    (h : (evOp tt S ⟨some d, .load t x, ty, pos, af, g⟩).run T H = some δ) : Good P wr env H a w ⟨some d, .load t x, ty, pos, af, g⟩ δ := by
  simp only [evOp] at h
  obtain ⟨i, hi, q⟩ := tiOf_inv h
  clear h
  obtain ⟨s, h, hc⟩ := opv_inv hs q
  clear q
  cases s <;> simp only [RM.run, reduceCtorEq] at h
  rename_i j el o
  obtain ⟨h1, u, h2, h3⟩ := load_run hh ht hi hc h
  obtain ⟨p, s, hs'⟩ := δ
  simp only at h1
  subst h1
  exact good_pure hh (by simp [execOp, h2]) h3

theorem makeFunc_ok (hh : HRel wr env H w) (hs : ∀ d, conc env H (T d) (a.tmps.getD d undef)) {tt : Types} {S : Tab} {d : Nat} {f : Nat} {first caps : Array Operand} {ty : Nat} {pos : String} {af : Array Edge} {g : Option (Nat × Bool)}
    (h : (evOp tt S ⟨some d, .makeFunc (.func f) first caps, ty, pos, af, g⟩).run T H = some δ) : Good P wr env H a w ⟨some d, .makeFunc (.func f) first caps, ty, pos, af, g⟩ δ := by
  obtain ⟨first⟩ := first
  obtain ⟨caps⟩ := caps
  simp only [evOp] at h
  split at h
  · simp only [ret1, RM.run, Option.some.injEq] at h
    subst h
    exact good_pure hh (by simp [execOp, Instr.makeFunc]) rfl
  · rename_i x
    obtain ⟨s, q, hc⟩ := opv_inv hs h
    clear h
    cases s <;> simp only [RM.run, reduceCtorEq] at q
    rename_i j e o
    split at q
    case h_2 => simp [RM.run] at q
    rename_i he
    simp only [Bool.and_eq_true] at he
    have ho : o = 0 := Nat.eq_of_beq_eq_true he.2
    subst ho
    simp only [RM.run] at q
    split at q
    case h_2 => simp [RM.run] at q
    rename_i rw cs hj
    simp only [ret1, RM.run, Option.some.injEq] at q
    subst q
    simp only [conc, conc2, concC, hj] at hc
    obtain ⟨b, hb, e⟩ := hc
    refine good_pure (v := .func (.func f) #[] #[.pointer (some ⟨b, 0, none⟩)]) hh (by simp [execOp, Instr.makeFunc, e]) ?_
    simp only [conc, conc2, concC, hj]
    exact ⟨b, hb, rfl⟩
  · simp [RM.run] at h

def bndIs (v : Option Value) (n : Option Int) : Prop :=
  match v, n with
  | none, none => True
  | some v, some n => ∃ k, v = .int k n
  | _, _ => False

theorem bndOf_inv {α : Type} (hs : ∀ d, conc env H (T d) (a.tmps.getD d undef)) {x : Option Operand} {k : Option Int → RM α} {r : α} (h : (bndOf x k).run T H = some r) :
    ∃ n, (k n).run T H = some r ∧ bndIs (x.map a.eval) n := by
  cases x with
  | none => exact ⟨none, h, trivial⟩
  | some x =>
    simp only [bndOf] at h
    obtain ⟨s, q, hc⟩ := opv_inv hs h
    cases s <;> simp only [RM.run, reduceCtorEq] at q
    exact ⟨_, q, _, conc_int hc⟩

theorem run_bounds {len cap : Nat} {lo hi : Option Value} {l h : Option Int} (hl : bndIs lo l) (hh : bndIs hi h) (h0 : 0 ≤ h.getD len) (h1 : h.getD len ≤ cap) (l0 : 0 ≤ l.getD 0) (l1 : l.getD 0 ≤ h.getD len) :
    (Instr.sliceBounds true len cap lo hi none).run P w = .ok ((l.getD 0).toNat, (h.getD len).toNat, cap) w := by
  cases hi with
  | none =>
    cases h with
    | some _ => exact hh.elim
    | none =>
      cases lo with
      | none =>
        cases l with
        | some _ => exact hl.elim
        | none => simp [Instr.sliceBounds]
      | some v =>
        cases l with
        | none => exact hl.elim
        | some l =>
          obtain ⟨k, rfl⟩ := hl
          simp only [Option.getD_some, Option.getD_none] at *
          simp [Instr.sliceBounds, Instr.sliceBound, asIntOf, l0, l1]
  | some u =>
    cases h with
    | none => exact hh.elim
    | some h =>
      obtain ⟨k, rfl⟩ := hh
      simp only [Option.getD_some] at *
      have ht : ((h.toNat : Nat) : Int) = h := by omega
      cases lo with
      | none =>
        cases l with
        | some _ => exact hl.elim
        | none => simp [Instr.sliceBounds, Instr.sliceBound, asIntOf, h0, h1]
      | some v =>
        cases l with
        | none => exact hl.elim
        | some l =>
          obtain ⟨k, rfl⟩ := hl
          simp only [Option.getD_some] at *
          simp [Instr.sliceBounds, Instr.sliceBound, asIntOf, h0, h1, l0, l1, ht]

theorem run_sliceAt {t e : Nat} {n : TypeInfo} (hu : P.underlying t = some (.slice e)) (hn : P.info? e = some n) {x : Option Addr} {len cap : Nat} {lo hi : Option Value} {l h : Option Int} (hl : bndIs lo l) (hh : bndIs hi h)
    (h0 : 0 ≤ h.getD len) (h1 : h.getD len ≤ cap) (l0 : 0 ≤ l.getD 0) (l1 : l.getD 0 ≤ h.getD len) :
    (Instr.sliceAt t (.slice x len cap) lo hi none).run P w =
      .ok (.slice (if cap = (l.getD 0).toNat then x else x.map (·.add ((l.getD 0).toNat * n.size))) ((h.getD len).toNat - (l.getD 0).toNat) (cap - (l.getD 0).toNat)) w := by
  simp only [Instr.sliceAt, Sem.run_bind, run_underlying hu, Result.andThen_ok, Instr.slice, run_bounds hl hh h0 h1 l0 l1, run_sizeOf hn, Sem.run_pure]

theorem slice_run {d t e : Nat} {n : TypeInfo} (hu : P.underlying t = some (.slice e)) (hn : P.info? e = some n) {ty : Nat} {pos : String} {af : Array Edge} {g : Option (Nat × Bool)} {x : Operand} {lo hi : Option Operand}
    {y : Option Addr} {len cap : Nat} (hx : a.eval x = .slice y len cap) {l h : Option Int} (hl : bndIs (lo.map a.eval) l) (hh : bndIs (hi.map a.eval) h)
    (h0 : 0 ≤ h.getD len) (h1 : h.getD len ≤ cap) (l0 : 0 ≤ l.getD 0) (l1 : l.getD 0 ≤ h.getD len) :
    (execOp a.eval ⟨some d, .slice t x lo hi none, ty, pos, af, g⟩).run P w =
      .ok (.value (.slice (if cap = (l.getD 0).toNat then y else y.map (·.add ((l.getD 0).toNat * n.size))) ((h.getD len).toNat - (l.getD 0).toNat) (cap - (l.getD 0).toNat))) w := by
  simp [execOp, hx, run_sliceAt hu hn hl hh h0 h1 l0 l1]

theorem slice_vec (hH : HRel wr env H w) {d t e : Nat} {n : TypeInfo} (hu : P.underlying t = some (.slice e)) (hn : P.info? e = some n) {ty : Nat} {pos : String} {af : Array Edge} {g : Option (Nat × Bool)} {x : Operand} {lo hi : Option Operand}
    {j : Nat} {rw : Bool} {U : Ty} {xs : List U.El} (hj : H j = some (rw, .vec U xs)) (hsz : n.size = U.sz) (hx : conc env H (.vec j) (a.eval x)) {l h : Option Int} (hl : bndIs (lo.map a.eval) l) (hh : bndIs (hi.map a.eval) h)
    (h1 : h.getD xs.length ≤ xs.length) (l0 : 0 ≤ l.getD 0) (l1 : l.getD 0 ≤ h.getD xs.length) {p : Option Prop} {v : SV} (hv : v = .sl j (l.getD 0).toNat ((h.getD xs.length).toNat - (l.getD 0).toNat)) :
    Good P wr env H a w ⟨some d, .slice t x lo hi none, ty, pos, af, g⟩ ⟨p, v, []⟩ := by
  subst hv
  simp only [conc, conc2, concC, hj] at hx
  obtain ⟨hcap, _⟩ := hH.blk j rw _ hj
  refine good_pure hH (slice_run hu hn hx hl hh (by omega) (by omega) l0 l1) ?_
  simp only [conc, conc2, concC, hj]
  refine ⟨by omega, _, rfl, ?_⟩
  split
  · exact .inl (by assumption)
  · rw [hsz]; exact .inr rfl

theorem slice_sl (hH : HRel wr env H w) {d t e : Nat} {n : TypeInfo} (hu : P.underlying t = some (.slice e)) (hn : P.info? e = some n) {ty : Nat} {pos : String} {af : Array Edge} {g : Option (Nat × Bool)} {x : Operand} {lo hi : Option Operand}
    {j o m : Nat} {rw : Bool} {U : Ty} {xs : List U.El} (hj : H j = some (rw, .vec U xs)) (hsz : n.size = U.sz) (hx : conc env H (.sl j o m) (a.eval x)) {l h : Option Int} (hl : bndIs (lo.map a.eval) l) (hh : bndIs (hi.map a.eval) h)
    (h1 : o + h.getD m ≤ xs.length) (l0 : 0 ≤ l.getD 0) (l1 : l.getD 0 ≤ h.getD m) {p : Option Prop} {v : SV} (hv : v = .sl j (o + (l.getD 0).toNat) ((h.getD m).toNat - (l.getD 0).toNat)) :
    Good P wr env H a w ⟨some d, .slice t x lo hi none, ty, pos, af, g⟩ ⟨p, v, []⟩ := by
  subst hv
  simp only [conc, conc2, concC, hj] at hx
  obtain ⟨hm, y, hx, hy⟩ := hx
  obtain ⟨hcap, _⟩ := hH.blk j rw _ hj
  refine good_pure hH (slice_run hu hn hx hl hh (by omega) (by omega) l0 l1) ?_
  simp only [conc, conc2, concC, hj]
  refine ⟨by omega, _, by rw [Nat.sub_sub], ?_⟩
  split
  · exact .inl (by omega)
  · rename_i hne
    rcases hy with hy | hy
    · omega
    · right
      subst hy
      cases (env j).1 with
      | none => rfl
      | some q =>
        simp only [Option.map_some, hsz]
        congr 1
        unfold Addr.add
        rw [Nat.add_mul]
        split <;> split <;> split <;> simp_all <;> omega

theorem bnd_some {x : Option Operand} {n : Int} (h : bndIs (x.map a.eval) (some n)) : ∃ v : Value, x.map a.eval = some v ∧ ∃ k : IntKind, v = .int k n := by
  cases x with
  | none => exact h.elim
  | some x =>
    obtain ⟨k, hk⟩ := h
    exact ⟨_, rfl, k, hk⟩

theorem slice_ok (hH : HRel wr env H w) (hs : ∀ d, conc env H (T d) (a.tmps.getD d undef)) {tt : Types} (ht : TabOk P tt) {S : Tab} {d : Nat} {x : Operand} {lo hi mx : Option Operand} {t : Nat} {ty : Nat} {pos : String} {af : Array Edge} {g : Option (Nat × Bool)}
    (h : (evOp tt S ⟨some d, .slice t x lo hi mx, ty, pos, af, g⟩).run T H = some δ) (hp : ∀ p, δ.ok = some p → p) : Good P wr env H a w ⟨some d, .slice t x lo hi mx, ty, pos, af, g⟩ δ := by
  simp only [evOp] at h
  obtain ⟨i, hi', q⟩ := tiOf_inv h
  clear h
  split at q
  · rename_i hz
    obtain ⟨s, h, hc⟩ := opv_inv hs q
    clear q
    unfold zeroCut at hz
    split at hz
    case h_2 => cases hz
    rename_i k1 b k2 c
    simp only [Bool.and_eq_true, beq_iff_eq] at hz
    obtain ⟨rfl, rfl⟩ := hz
    cases s <;> simp only [RM.run, reduceCtorEq] at h
    · rename_i j
      obtain ⟨rw, U, xs, V, hj, hV, hsz, q⟩ := tyIs_inv h
      obtain ⟨hu, m, hm, hms⟩ := typeOk_slice (ht _ _ hi') hV
      simp only [ret1, RM.run, Option.some.injEq] at q
      subst q
      simp only [conc, conc2, concC, hj] at hc
      refine good_pure (v := .slice (env j).1 0 0) hH ?_ ⟨_, rfl⟩
      simp [execOp, hc, show ∀ v, a.eval (.const v) = v from fun _ => rfl, Instr.sliceAt, run_underlying hu, Instr.slice, Instr.sliceBounds, Instr.sliceBound, asIntOf, run_sizeOf hm]
    · split at h
      case h_2 => simp [RM.run] at h
      rename_i V hV
      obtain ⟨hu, m, hm, hms⟩ := typeOk_slice (ht _ _ hi') hV
      simp only [ret1, RM.run, Option.some.injEq] at h
      subst h
      obtain ⟨y, hc⟩ := hc
      refine good_pure (v := .slice y 0 0) hH ?_ ⟨_, rfl⟩
      simp [execOp, hc, show ∀ v, a.eval (.const v) = v from fun _ => rfl, Instr.sliceAt, run_underlying hu, Instr.slice, Instr.sliceBounds, Instr.sliceBound, asIntOf, run_sizeOf hm]
  · obtain ⟨s, h, hc⟩ := opv_inv hs q
    clear q
    obtain ⟨l, q, hl⟩ := bndOf_inv hs h
    clear h
    obtain ⟨hb, h, hh⟩ := bndOf_inv hs q
    clear q
    unfold sliceOf at h
    split at h
    · rename_i j
      obtain ⟨rw, U, xs, V, hj, hV, hsz, q⟩ := tyIs_inv h
      obtain ⟨hu, m, hm, hms⟩ := typeOk_slice (ht _ _ hi') hV
      have hms' : m.size = U.sz := hms.trans hsz
      split at q <;> simp only [ret1, retc, RM.run, Option.some.injEq] at q <;> subst q
      · simp only [conc, conc2, concC, hj] at hc
        refine good_pure (v := .slice (env j).1 xs.length (env j).2) hH ?_ (by simp only [conc, conc2, concC, hj])
        obtain ⟨hcap, _⟩ := hH.blk j rw _ hj
        have := slice_run (w := w) (d := d) (ty := ty) (pos := pos) (af := af) (g := g) hu hm hc hl hh (l := none) (h := none) (by simp) (by simpa using hcap) (by simp) (by simp)
        simp only [Option.getD_none, Int.toNat_natCast, Int.toNat_zero, Nat.sub_zero, Nat.zero_mul] at this
        rw [this]
        congr 3
        split
        · rfl
        · cases (env j).1 <;> simp [Addr.add]
      · have hq := hp _ rfl
        exact slice_vec hH (d := d) (ty := ty) (pos := pos) (af := af) (g := g) hu hm hj hms' hc hl hh (by simp) hq.1 (by simpa using hq.2) (by simp)
      · have hq := hp _ rfl
        exact slice_vec hH (d := d) (ty := ty) (pos := pos) (af := af) (g := g) hu hm hj hms' hc hl hh hq.2 (by simp) (by simpa using hq.1) (by simp)
      · have hq := hp _ rfl
        exact slice_vec hH (d := d) (ty := ty) (pos := pos) (af := af) (g := g) hu hm hj hms' hc hl hh hq.2.2 hq.1 hq.2.1 (by simp)
    · rename_i j o n
      obtain ⟨rw, U, xs, V, hj, hV, hsz, q⟩ := tyIs_inv h
      obtain ⟨hu, m, hm, hms⟩ := typeOk_slice (ht _ _ hi') hV
      have hms' : m.size = U.sz := hms.trans hsz
      have hmm : o + n ≤ xs.length := by
        have := hc
        simp only [conc, conc2, concC, hj] at this
        exact this.1
      split at q <;> simp only [ret1, retc, RM.run, Option.some.injEq] at q <;> subst q
      · exact slice_sl hH (d := d) (ty := ty) (pos := pos) (af := af) (g := g) hu hm hj hms' hc hl hh (by simp only [Option.getD_none]; omega) (by simp) (by simp) (by simp)
      · have hq := hp _ rfl
        exact slice_sl hH (d := d) (ty := ty) (pos := pos) (af := af) (g := g) hu hm hj hms' hc hl hh (by simp only [Option.getD_none]; omega) hq.1 (by simpa using hq.2) (by simp)
      · have hq := hp _ rfl
        exact slice_sl hH (d := d) (ty := ty) (pos := pos) (af := af) (g := g) hu hm hj hms' hc hl hh hq.2 (by simp) (by simpa using hq.1) (by simp)
      · have hq := hp _ rfl
        exact slice_sl hH (d := d) (ty := ty) (pos := pos) (af := af) (g := g) hu hm hj hms' hc hl hh hq.2.2 hq.1 hq.2.1 (by simp)
    · obtain ⟨y, hc⟩ := hc
      cases hty : i.ty with
      | none => simp [hty, RM.run] at h
      | some V =>
        obtain ⟨hu, m, hm, hms⟩ := typeOk_slice (ht _ _ hi') hty
        simp only [hty] at h
        cases l <;> cases hb <;> simp only [ret1, retc, RM.run, Option.some.injEq] at h <;> subst h
        · refine good_pure hH (slice_run (w := w) (d := d) (ty := ty) (pos := pos) (af := af) (g := g) hu hm hc hl hh (by simp) (by simp) (by simp) (by simp)) ?_
          exact ⟨_, by simp; rfl⟩
        · have hq := hp _ rfl
          subst hq
          refine good_pure hH (slice_run (w := w) (d := d) (ty := ty) (pos := pos) (af := af) (g := g) hu hm hc hl hh (by simp) (by simp) (by simp) (by simp)) ?_
          exact ⟨_, by simp; rfl⟩
        · have hq := hp _ rfl
          subst hq
          refine good_pure hH (slice_run (w := w) (d := d) (ty := ty) (pos := pos) (af := af) (g := g) hu hm hc hl hh (by simp) (by simp) (by simp) (by simp)) ?_
          exact ⟨_, by simp; rfl⟩
        · obtain ⟨rfl, rfl⟩ := hp _ rfl
          refine good_pure hH (slice_run (w := w) (d := d) (ty := ty) (pos := pos) (af := af) (g := g) hu hm hc hl hh (by simp) (by simp) (by simp) (by simp)) ?_
          exact ⟨_, by simp; rfl⟩
    · simp [RM.run] at h
  · rename_i mo _
    obtain ⟨s, h, hc⟩ := opv_inv hs q
    clear q
    obtain ⟨l, q, hl⟩ := bndOf_inv hs h
    clear h
    obtain ⟨hb, h, hh⟩ := bndOf_inv hs q
    clear q
    obtain ⟨mb, q, hm'⟩ := bndOf_inv hs h
    clear h
    split at q
    case h_2 => simp [RM.run] at q
    rename_i j l hi2 mx2
    obtain ⟨rw, U, xs, V, hj, hV, hsz, q⟩ := tyIs_inv q
    obtain ⟨hu, m, hm, hms⟩ := typeOk_slice (ht _ _ hi') hV
    simp only [retc, RM.run, Option.some.injEq] at q
    subst q
    obtain ⟨p1, p2, p3, p4⟩ := hp _ rfl
    simp only [conc, conc2, concC, hj] at hc
    obtain ⟨hcap, _⟩ := hH.blk j rw _ hj
    obtain ⟨v1, e1, k1, rfl⟩ := bnd_some hl
    obtain ⟨v2, e2, k2, rfl⟩ := bnd_some hh
    obtain ⟨v3, e3, k3, rfl⟩ := bnd_some hm'
    refine good_pure (v := .slice (if mx2.toNat = l.toNat then (env j).1 else (env j).1.map (·.add (l.toNat * m.size))) (hi2.toNat - l.toNat) (mx2.toNat - l.toNat)) hH ?_ trivial
    have e3' : a.eval mo = .int k3 mx2 := by simpa using e3
    have c1 : (hi2.toNat : Int) = hi2 := by omega
    have c2 : (mx2.toNat : Int) = mx2 := by omega
    simp [execOp, hc, Instr.sliceAt, run_underlying hu, Instr.slice, e1, e2, e3', Instr.sliceBounds, Instr.sliceBound, asIntOf, run_sizeOf hm, c1, c2, p1, p2, p3, show 0 ≤ hi2 by omega, show 0 ≤ mx2 by omega, show mx2 ≤ ((env j).2 : Int) by omega]

end

end Go.Proofs.YtdhbkcaaijgocaaGreat.Sym

namespace Go.Proofs.YtdhbkcaaijgocaaGreat.Sym
open Go
set_option linter.unusedVariables false
set_option linter.unusedSimpArgs false

section
variable {P : Program} {wr : Nat → Prop} {env env' : Env} {H H' : Hp} {a : Act} {w w' : World} {T : Nat → SV} {δ : Delta}

theorem own_lt (hh : HRel wr env H w) {j : Nat} {r : Bool} {b : Blk} (hj : H j = some (r, b)) {x : Nat} (hx : own env j b = some x) : x < w.heap.size := by
  have h := hh.blk j r b hj
  cases b with
  | box cs =>
    obtain ⟨b, E, vs, fz, hb, hheap, _⟩ := h
    simp only [own, hb, Option.map_some, Option.some.injEq] at hx
    subst hx
    exact (Array.getElem?_eq_some_iff.1 hheap).1
  | vec U xs =>
    obtain ⟨_, h⟩ := h
    simp only [own] at hx
    split at hx
    · cases hx
    · rcases h with h | ⟨b, off, E, vs, fz, hb, hheap, _⟩
      · contradiction
      · simp only [hb, Option.map_some, Option.some.injEq] at hx
        subst hx
        exact (Array.getElem?_eq_some_iff.1 hheap).1
  | dead => simp [own] at hx

theorem HRel.step (hh : HRel wr env H w) (sp : Nat → Prop) (x : Ext env H env' H')
    (old : ∀ k r b, ¬ sp k → H' k = some (r, b) → H k = some (r, b) ∧ env' k = env k ∧ ∀ y, own env k b = some y → w'.heap[y]? = w.heap[y]?)
    (new : ∀ k r b, sp k → H' k = some (r, b) → blkRel env' H' k r b w' ∧ ∀ y, own env' k b = some y → (r = true → wr y) ∧
      ∀ k' r' b', k' ≠ k → H' k' = some (r', b') → own env' k' b' = some y → (r = true ∨ r' = true) → False) : HRel wr env' H' w' := by
  have ow : ∀ k b, env' k = env k → own env' k b = own env k b := fun k b e => by cases b <;> simp [own, e]
  refine ⟨?_, ?_, ?_⟩
  · intro j r b hj
    by_cases hs : sp j
    · exact (new j r b hs hj).1
    · obtain ⟨h1, h2, h3⟩ := old j r b hs hj
      have h := hh.blk j r b h1
      cases b with
      | box cs =>
        obtain ⟨b, E, vs, fz, hb, hheap, hc, hf⟩ := h
        exact ⟨b, E, vs, fz, by rw [h2]; exact hb, by rw [h3 b (by simp [own, hb])]; exact hheap, concCs_ext x hc, hf⟩
      | vec U xs =>
        obtain ⟨hl, h⟩ := h
        refine ⟨by rw [h2]; exact hl, ?_⟩
        rw [h2]
        rcases h with h | ⟨b, off, E, vs, fz, hb, hheap, rest⟩
        · exact .inl h
        · by_cases hz : (env j).2 = 0
          · exact .inl hz
          · exact .inr ⟨b, off, E, vs, fz, hb, by rw [h3 b (by simp [own, hb, hz])]; exact hheap, rest⟩
      | dead => trivial
  · intro i j ri bi rj bj hij hi hj hrw y hyi hyj
    by_cases hsi : sp i
    · exact ((new i ri bi hsi hi).2 y hyi).2 j rj bj (Ne.symm hij) hj hyj hrw
    · by_cases hsj : sp j
      · exact ((new j rj bj hsj hj).2 y hyj).2 i ri bi hij hi hyi hrw.symm
      · obtain ⟨a1, a2, _⟩ := old i ri bi hsi hi
        obtain ⟨c1, c2, _⟩ := old j rj bj hsj hj
        rw [ow _ _ a2] at hyi
        rw [ow _ _ c2] at hyj
        exact hh.dj i j ri bi rj bj hij a1 c1 hrw y hyi hyj
  · intro j b hj y hy
    by_cases hs : sp j
    · exact ((new j true b hs hj).2 y hy).1 rfl
    · obtain ⟨h1, h2, _⟩ := old j true b hs hj
      rw [ow _ _ h2] at hy
      exact hh.wrt j b h1 y hy

def envSet (env : Env) (n : Nat) (x : Option Addr × Nat) : Env := fun k => if k = n then x else env k

theorem updH_one (n : Nat) (e : Ent) (k : Nat) : updH H [(n, e)] k = if k = n then some e else H k := by
  by_cases h : k = n
  · subst h; simp [updH, look]
  · have : Nat.beq n k = false := by
      cases q : Nat.beq n k with
      | false => rfl
      | true => exact absurd (Nat.eq_of_beq_eq_true q).symm h
    simp [updH, look, this, h]

theorem updH_two (m n : Nat) (d e : Ent) (k : Nat) : updH H [(m, d), (n, e)] k = if k = m then some d else if k = n then some e else H k := by
  have beq : ∀ a, Nat.beq a k = decide (k = a) := fun a => by
    cases q : Nat.beq a k with
    | true => simp [(Nat.eq_of_beq_eq_true q)]
    | false => simp; intro h; subst h; simp at q
  by_cases h : k = m
  · simp [updH, look, beq, h]
  · by_cases h2 : k = n
    · subst h2; simp [updH, look, beq, h]
    · simp [updH, look, beq, h, h2]

/-- A new block under a new name. -/
theorem HRel.add (hh : HRel wr env H w) {n : Nat} (hn : H n = none) {rw : Bool} {b : Blk} {x : Option Addr × Nat} (hw : ∀ k, k < w.heap.size → w'.heap[k]? = w.heap[k]?)
    (hnew : ∀ k, w.heap.size ≤ k → wr k) (hb : ∀ H', Ext env H (envSet env n x) H' → blkRel (envSet env n x) H' n rw b w') (ho : ∀ y, own (envSet env n x) n b = some y → w.heap.size ≤ y) :
    Ext env H (envSet env n x) (updH H [(n, rw, b)]) ∧ HRel wr (envSet env n x) (updH H [(n, rw, b)]) w' := by
  have ex : Ext env H (envSet env n x) (updH H [(n, rw, b)]) := ⟨fun j r c hj => by
    have hne : j ≠ n := fun e => by subst e; rw [hn] at hj; cases hj
    exact ⟨by simp [envSet, hne], r, c, by rw [updH_one, if_neg hne]; exact hj, stays_refl c⟩⟩
  refine ⟨ex, hh.step (fun k => k = n) ex ?_ ?_⟩
  · intro k r c hk hc
    rw [updH_one, if_neg hk] at hc
    exact ⟨hc, by simp [envSet, hk], fun y hy => hw y (own_lt hh hc hy)⟩
  · intro k r c hk hc
    subst hk
    rw [updH_one, if_pos rfl] at hc
    cases hc
    refine ⟨hb _ ex, fun y hy => ⟨fun _ => hnew y (ho y hy), ?_⟩⟩
    intro k' r' b' hne hk' hy' _
    rw [updH_one, if_neg hne] at hk'
    have : own env k' b' = some y := by
      rw [← hy']
      cases b' <;> simp [own, envSet, hne]
    have := own_lt hh hk' this
    have := ho y hy
    omega

theorem fr_alloc {o : Obj} (h0 : w'.heap = w.heap.push o) (h1 : w'.os = w.os) (h2 : w'.tape = w.tape) (h3 : w'.output = w.output) : Fr wr w w' ∧ ∀ k, k < w.heap.size → w'.heap[k]? = w.heap[k]? := by
  have h : ∀ k, k < w.heap.size → w'.heap[k]? = w.heap[k]? := fun k hk => by rw [h0, Array.getElem?_push, if_neg (by omega)]
  exact ⟨⟨h1, h2, h3, by rw [h0]; simp, fun k hk _ => h k hk⟩, h⟩

/-- A box. -/
theorem box_good (hh : HRel wr env H w) (hnew : ∀ k, w.heap.size ≤ k → wr k) {n : Nat} (hn : H n = none) {cs : List SV} {vs : Array Value} {E : Nat} (hc : concCs env H cs vs.toList)
    (h0 : w'.heap = w.heap.push (.cells vs E (0, 0))) (h1 : w'.os = w.os) (h2 : w'.tape = w.tape) (h3 : w'.output = w.output) :
    ∃ env', Ext env H env' (updH H [(n, true, .box cs)]) ∧ HRel wr env' (updH H [(n, true, .box cs)]) w' ∧ Fr wr w w' ∧
      conc env' (updH H [(n, true, .box cs)]) (.ptr n 0 0) (.pointer (some ⟨w.heap.size, 0, none⟩)) := by
  obtain ⟨f1, f2⟩ := fr_alloc (wr := wr) h0 h1 h2 h3
  have := hh.add hn (rw := true) (b := .box cs) (x := (some ⟨w.heap.size, 0, none⟩, 0)) f2 hnew (fun H'' ex =>
    ⟨w.heap.size, E, vs, (0, 0), by simp [envSet], by rw [h0]; simp, concCs_ext ex hc, fun _ => rfl⟩) (fun y hy => by simp [own, envSet] at hy; omega)
  refine ⟨_, this.1, this.2, f1, ?_⟩
  simp only [conc, conc2, concC, updH_one, if_true]
  exact ⟨w.heap.size, by simp [envSet], rfl⟩

/-- A list of the call's own. -/
theorem vec_good (hh : HRel wr env H w) (hnew : ∀ k, w.heap.size ≤ k → wr k) {n : Nat} (hn : H n = none) {U : Ty} {xs : List U.El} {vs : Array Value} {E c : Nat} (hl : xs.length ≤ c) (hs : c * U.sz ≤ vs.size) (hli : Lies U xs vs 0)
    (h0 : w'.heap = w.heap.push (.cells vs E (0, 0))) (h1 : w'.os = w.os) (h2 : w'.tape = w.tape) (h3 : w'.output = w.output) :
    ∃ env', Ext env H env' (updH H [(n, true, .vec U xs)]) ∧ HRel wr env' (updH H [(n, true, .vec U xs)]) w' ∧ Fr wr w w' ∧
      conc env' (updH H [(n, true, .vec U xs)]) (.vec n) (.slice (some ⟨w.heap.size, 0, none⟩) xs.length c) := by
  obtain ⟨f1, f2⟩ := fr_alloc (wr := wr) h0 h1 h2 h3
  have := hh.add hn (rw := true) (b := .vec U xs) (x := (some ⟨w.heap.size, 0, none⟩, c)) f2 hnew (fun H'' ex =>
    ⟨by simpa [envSet] using hl, .inr ⟨w.heap.size, 0, E, vs, (0, 0), by simp [envSet], by rw [h0]; simp, by simpa [envSet] using hs, hli, fun _ => rfl⟩⟩)
    (fun y hy => by simp only [own, envSet, if_true] at hy; split at hy <;> simp at hy; omega)
  refine ⟨_, this.1, this.2, f1, ?_⟩
  simp only [conc, conc2, concC, updH_one, if_true]
  simp [envSet]

theorem fresh_inv {α : Type} {n : Nat} {k : RM α} {r : α} (h : (fresh n k).run T H = some r) : H n = none ∧ k.run T H = some r := by
  simp only [fresh, RM.run] at h
  split at h
  · exact ⟨by assumption, h⟩
  · simp [RM.run] at h

theorem concC_of {s : SV} {v : Value} (h : conc env H s v) (h1 : ∀ cs, s ≠ .agg cs) (h2 : ∀ cs, s ≠ .tup cs) : concC env H s v := by
  cases s <;> first | exact h | exact absurd rfl (h1 _) | exact absurd rfl (h2 _)

theorem conc_cells {s : SV} {v : Value} (h : conc env H s v) (hs : solid s.cells = true) : concCs env H s.cells v.cells.toList := by
  by_cases h1 : ∃ cs, s = .agg cs
  · obtain ⟨cs, rfl⟩ := h1
    obtain ⟨vs, e, h⟩ := h
    subst e
    exact h
  · by_cases h2 : ∃ cs, s = .tup cs
    · obtain ⟨cs, rfl⟩ := h2
      simp [SV.cells, solid] at hs
    · have hc := concC_of h (fun cs e => h1 ⟨cs, e⟩) (fun cs e => h2 ⟨cs, e⟩)
      have ha : s.cells = [s] := by cases s <;> first | rfl | exact absurd ⟨_, rfl⟩ h1
      have hn : s ≠ .any := fun e => by subst e; simp [SV.cells, solid] at hs
      have h1 := concC_one hc hn
      have : v.cells = #[v] := by cases v <;> first | rfl | (cases h1)
      rw [this, ha]
      exact ⟨hc, trivial⟩

theorem box_ok (hh : HRel wr env H w) (hnew : ∀ k, w.heap.size ≤ k → wr k) (hs : ∀ d, conc env H (T d) (a.tmps.getD d undef)) {tt : Types} {S : Tab} {d : Nat} {x : Operand} {t : Nat} {ty : Nat} {pos : String} {af : Array Edge} {g : Option (Nat × Bool)}
    (h : (evOp tt S ⟨some d, .box t x, ty, pos, af, g⟩).run T H = some δ) : Good P wr env H a w ⟨some d, .box t x, ty, pos, af, g⟩ δ := by
  simp only [evOp] at h
  obtain ⟨s, q, hc⟩ := opv_inv hs h
  clear h
  split at q
  case h_2 => simp [RM.run] at q
  rename_i hso
  obtain ⟨hn, q⟩ := fresh_inv q
  simp only [RM.run, Option.some.injEq] at q
  subst q
  have := conc_cells hc hso
  refine .inl ⟨.pointer (some ⟨w.heap.size, 0, none⟩), { w with heap := w.heap.push (.cells (a.eval x).cells t) }, ?_, ?_⟩
  · simp [execOp, Instr.box, newVar, newRow]
  · exact box_good hh hnew hn this rfl rfl rfl rfl

theorem zero_conc : ∀ {zs : List SV} {vs : List Value}, zeroFits zs vs = true → concCs env H zs vs
  | [], [], _ => trivial
  | .int k n :: r, .int j m :: s, h => by
    simp only [zeroFits, Bool.and_eq_true, beq_iff_eq] at h
    exact ⟨by simp [concC, h.1.1, h.1.2], zero_conc h.2⟩
  | .bool b :: r, .bool c :: s, h => by
    simp only [zeroFits, Bool.and_eq_true, beq_iff_eq] at h
    exact ⟨by simp [concC, h.1], zero_conc h.2⟩
  | .nilp :: r, .pointer none :: s, h => ⟨rfl, zero_conc (by simpa [zeroFits] using h)⟩
  | .nilsl :: r, .slice x 0 0 :: s, h => ⟨⟨x, rfl⟩, zero_conc (by simpa [zeroFits] using h)⟩

theorem alloc_ok (hh : HRel wr env H w) (hnew : ∀ k, w.heap.size ≤ k → wr k) (hs : ∀ d, conc env H (T d) (a.tmps.getD d undef)) {tt : Types} (ht : TabOk P tt) {S : Tab} {d : Nat} {t : Nat} {ty : Nat} {pos : String} {af : Array Edge} {g : Option (Nat × Bool)}
    (h : (evOp tt S ⟨some d, .alloc t, ty, pos, af, g⟩).run T H = some δ) : Good P wr env H a w ⟨some d, .alloc t, ty, pos, af, g⟩ δ := by
  simp only [evOp] at h
  obtain ⟨i, hi, q⟩ := tiOf_inv h
  clear h
  obtain ⟨hn, q⟩ := fresh_inv q
  simp only [RM.run, Option.some.injEq] at q
  subst q
  obtain ⟨n, u, hin, hu, _, _, _, z, hz, hzf, _⟩ := typeOk_some (ht _ _ hi)
  refine .inl ⟨.pointer (some ⟨w.heap.size, 0, none⟩), { w with heap := w.heap.push (.cells z.cells t) }, ?_, ?_⟩
  · simp [execOp, Instr.alloc, zeroValue, typeInfo, hin, hz, newVar, newRow]
  · exact box_good hh hnew hn (zero_conc hzf) rfl rfl rfl rfl

theorem get_splice {α : Type} {l us : List α} {p : Nat} (h : p + us.length ≤ l.length) (q : Nat) :
    (l.take p ++ us ++ l.drop (p + us.length))[q]? = if q < p then l[q]? else if q < p + us.length then us[q - p]? else l[q]? := by
  have hp : p ≤ l.length := by omega
  by_cases h1 : q < p
  · rw [if_pos h1, List.append_assoc, List.getElem?_append_left (by simp; omega), List.getElem?_take, if_pos h1]
  · rw [if_neg h1]
    by_cases h2 : q < p + us.length
    · rw [if_pos h2, List.getElem?_append_left (by simp; omega), List.getElem?_append_right (by simp; omega)]
      congr 1
      simp
      omega
    · rw [if_neg h2, List.getElem?_append_right (by simp; omega), List.getElem?_drop]
      congr 1
      simp
      omega

theorem plain_val {c : SV} {v : Value} (h : plain c = true) (hc : concC env H c v) : v = svl c := by
  cases c <;> first | exact hc | (cases h)

theorem plain_vals : ∀ {cs : List SV} {vs : List Value}, (∀ c ∈ cs, plain c = true) → concCs env H cs vs → vs = cs.map svl
  | [], [], _, _ => rfl
  | c :: r, v :: s, h, hc => by
    rw [plain_val (h c (by simp)) hc.1, plain_vals (cs := r) (vs := s) (fun x hx => h x (by simp [hx])) hc.2]
    rfl

theorem solid_one : ∀ {cs : List SV} {vs : List Value}, solid cs = true → concCs env H cs vs → ∀ v ∈ vs, v.oneCell' = true
  | [], [], _, _ => by simp
  | c :: r, v :: s, h, hc => by
    intro u hu
    have hn : c ≠ .any := fun e => by subst e; simp [solid] at h
    have hr : solid r = true := by cases c <;> first | exact h | (cases h)
    rcases List.mem_cons.1 hu with e | e
    · subst e; exact concC_one hc.1 hn
    · exact solid_one (cs := r) (vs := s) hr hc.2 u e

theorem dec_enc {U : Ty} {cs : List SV} {x : U.El} (h : U.dec cs = some x) : U.enc x = cs := by
  unfold Ty.dec at h
  split at h <;> first | (cases h; done) | (cases h; rfl)

theorem run_storeAt {t : Nat} {n : TypeInfo} (hn : P.info? t = some n) {b o : Nat} {v : Value} {us : List Value} (hu : v.cells.toList = us) (hl : us.length = n.size) {cur : Array Value} {E : TypeId}
    (hg : w.heap[b]? = some (.cells cur E (0, 0))) (hf : o + us.length ≤ cur.size) (h1 : ∀ u ∈ us, u.oneCell' = true) :
    (Instr.storeAt t (.pointer (some ⟨b, o, none⟩)) v).run P w = .ok () (w.setRow b (cur.toList.take o ++ us ++ cur.toList.drop (o + us.length)).toArray) := by
  have hs : v.cells.size = n.size := by rw [← hl, ← hu]; simp
  have := run_storeCells_at P b o E us 0 cur w hg (by simpa using hf) h1
  simp only [Nat.add_zero] at this
  simp [Instr.storeAt, Instr.sureAddr, storeVar, run_sizeOf hn, hs, hu, this]

theorem fr_setRow {b : Nat} {cs : Array Value} (hb : wr b) : Fr wr w (w.setRow b cs) :=
  ⟨rfl, rfl, rfl, by simp [World.setRow], fun k _ hk => setRow_other w b k cs (fun e => hk (e ▸ hb))⟩

theorem splice_length {cs vs : List SV} {o : Nat} (h : o + vs.length ≤ cs.length) : (splice cs o vs).length = cs.length := by
  simp [splice]; omega

theorem mem_splice {cs vs : List SV} {o : Nat} {c : SV} (h : c ∈ vs) : c ∈ splice cs o vs := by simp [splice, h]

/-- A list whose one element is written anew. -/
theorem lies_set {U : Ty} {xs : List U.El} {vs : Array Value} {off e : Nat} (hl : Lies U xs vs off) (he : e < xs.length) {x : U.El} {cs : List SV} {o : Nat} (hx : U.enc x = splice (U.enc (U.ix xs e)) o cs)
    (ho : o + cs.length ≤ U.sz) (hsz : off + xs.length * U.sz ≤ vs.size) :
    Lies U (xs.set e x) (vs.toList.take (off + e * U.sz + o) ++ cs.map svl ++ vs.toList.drop (off + e * U.sz + o + (cs.map svl).length)).toArray off := by
  intro e' he' o' ho'
  simp only [List.length_set] at he'
  have hes : e * U.sz + U.sz ≤ xs.length * U.sz := by
    have : (e + 1) * U.sz ≤ xs.length * U.sz := Nat.mul_le_mul_right _ he
    rw [Nat.add_mul, Nat.one_mul] at this
    exact this
  have hes' : e' * U.sz + U.sz ≤ xs.length * U.sz := by
    have : (e' + 1) * U.sz ≤ xs.length * U.sz := Nat.mul_le_mul_right _ he'
    rw [Nat.add_mul, Nat.one_mul] at this
    exact this
  rw [List.getElem?_toArray, get_splice (by simp; omega)]
  simp only [List.length_map]
  have hL := hl e' he' o' ho'
  rw [← Array.getElem?_toList] at hL
  by_cases heq : e' = e
  · subst heq
    have hix : U.ix (xs.set e' x) e' = x := by simp [Ty.ix, List.getD, he]
    rw [hix, hx]
    have hlen : (U.enc (U.ix xs e')).length = U.sz := enc_length U _
    have hg : (splice (U.enc (U.ix xs e')) o cs)[o']? = if o' < o then (U.enc (U.ix xs e'))[o']? else if o' < o + cs.length then cs[o' - o]? else (U.enc (U.ix xs e'))[o']? := get_splice (by omega) o'
    split
    · rw [hL]
      rw [if_pos (by omega)] at hg
      simp [List.getD, hg]
    · rename_i h1
      rw [if_neg (by omega)] at hg
      split
      · rename_i h2
        rw [if_pos (by omega)] at hg
        have hi : off + e' * U.sz + o' - (off + e' * U.sz + o) = o' - o := by omega
        rw [hi]
        have hlt : o' - o < cs.length := by omega
        simp [List.getD, hg, hlt]
      · rename_i h2
        rw [if_neg (by omega)] at hg
        rw [hL]
        simp [List.getD, hg]
  · have hix : U.ix (xs.set e x) e' = U.ix xs e' := by simp [Ty.ix, List.getD, Ne.symm heq]
    rw [hix]
    have hsep : e' * U.sz + U.sz ≤ e * U.sz ∨ e * U.sz + U.sz ≤ e' * U.sz := by
      rcases Nat.lt_or_ge e' e with h | h
      · left
        have : (e' + 1) * U.sz ≤ e * U.sz := Nat.mul_le_mul_right _ h
        rw [Nat.add_mul, Nat.one_mul] at this
        exact this
      · right
        have : (e + 1) * U.sz ≤ e' * U.sz := Nat.mul_le_mul_right _ (by omega)
        rw [Nat.add_mul, Nat.one_mul] at this
        exact this
    split
    · exact hL
    · split
      · rename_i h1 h2
        rcases hsep with h | h <;> omega
      · exact hL

theorem store_ok (hh : HRel wr env H w) (hs : ∀ d, conc env H (T d) (a.tmps.getD d undef)) {tt : Types} (ht : TabOk P tt) {S : Tab} {x y : Operand} {t : Nat} {ty : Nat} {pos : String} {af : Array Edge} {g : Option (Nat × Bool)}
    (h : (evOp tt S ⟨none, .store t x y, ty, pos, af, g⟩).run T H = some δ) : Good P wr env H a w ⟨none, .store t x y, ty, pos, af, g⟩ δ := by
  simp only [evOp] at h
  obtain ⟨i, hi, q⟩ := tiOf_inv h
  clear h
  obtain ⟨s, h, hc⟩ := opv_inv hs q
  clear q
  cases s <;> simp only [RM.run, reduceCtorEq] at h
  rename_i j e o
  obtain ⟨v, q, hv⟩ := opv_inv hs h
  clear h
  obtain ⟨n, u, hin, hu, hsz, _, _, _⟩ := typeOk_some (ht _ _ hi)
  unfold writeBlk at q
  simp only [RM.run] at q
  split at q
  · rename_i cs hj hb
    simp only [Bool.and_eq_true] at hb
    have hn : v.cells.length = i.size := Nat.eq_of_beq_eq_true hb.1
    split at q
    case h_2 => simp [RM.run] at q
    rename_i hq
    simp only [Bool.and_eq_true] at hq
    have hle : o + i.size ≤ cs.length := Nat.le_of_ble_eq_true hq.2
    simp only [RM.run, Option.some.injEq] at q
    subst q
    have hcells := conc_cells hv hb.2
    have hlen := concCs_length hcells
    simp only [conc, conc2, concC, hj] at hc
    obtain ⟨b, hb1, ea⟩ := hc
    obtain ⟨b', E, vs, fz, hb2, hheap, hcs, hfz⟩ := hh.blk j true _ hj
    rw [hb1] at hb2
    cases hb2
    have hfz := hfz rfl
    subst hfz
    have hl2 := concCs_length hcs
    simp only [Array.length_toList] at hl2 hlen
    have hst := run_storeAt (w := w) hin (v := a.eval y) (us := (a.eval y).cells.toList) rfl (by simp; omega) hheap (o := o) (by simp; omega) (solid_one hb.2 hcells)
    have hown : own env j (.box cs) = some b := by simp [own, hb1]
    have ex : Ext env H env (updH H [(j, true, .box (splice cs o v.cells))]) := ⟨fun k r c hk => ⟨rfl, by
      rw [updH_one]
      by_cases hkj : k = j
      · subst hkj; rw [hj] at hk; cases hk; rw [if_pos rfl]; exact ⟨_, _, rfl, trivial⟩
      · rw [if_neg hkj]; exact ⟨r, c, hk, stays_refl c⟩⟩⟩
    refine .inr (.inl ⟨w.setRow b _, by simp [execOp, ea, hst]; rfl, env, ex, ?_, fr_setRow (hh.wrt j _ hj b hown), ⟨#[], rfl, trivial⟩⟩)
    refine hh.step (fun k => k = j) ex ?_ ?_
    · intro k r c hk hc
      rw [updH_one, if_neg hk] at hc
      refine ⟨hc, rfl, fun y' hy => setRow_other w b y' _ (fun e => ?_)⟩
      subst e
      exact hh.dj j k true _ r c (Ne.symm hk) hj hc (.inl rfl) _ hown hy
    · intro k r c hk hc
      subst hk
      rw [updH_one, if_pos rfl] at hc
      cases hc
      refine ⟨⟨b, E, _, (0, 0), hb1, setRow_heap w b vs _ E (0, 0) hheap, ?_, fun _ => rfl⟩, ?_⟩
      · have h1 := concCs_ext ex hcs
        have h2 := concCs_ext ex hcells
        have hL : v.cells.length = (a.eval y).cells.size := by omega
        have h3 := concCs_append (concCs_append (concCs_take (n := o) h1) h2) (concCs_drop (n := o + v.cells.length) h1)
        have h4 : splice cs o v.cells = cs.take o ++ v.cells ++ cs.drop (o + v.cells.length) := rfl
        rw [← h4, hL, List.append_assoc] at h3
        exact h3
      · intro y' hy
        simp only [own, hb1, Option.map_some, Option.some.injEq] at hy
        subst hy
        refine ⟨fun _ => hh.wrt k _ hj b hown, ?_⟩
        intro k' r' b' hne hk' hy' _
        rw [updH_one, if_neg hne] at hk'
        exact hh.dj k k' true _ r' b' (Ne.symm hne) hj hk' (.inl rfl) _ hown hy'
  · rename_i U xs hj hb
    simp only [Bool.and_eq_true] at hb
    have hn : v.cells.length = i.size := Nat.eq_of_beq_eq_true hb.1
    split at q
    case h_2 => simp [RM.run] at q
    rename_i x' hq hd
    have hle : o + i.size ≤ U.sz := Nat.le_of_ble_eq_true hq
    have q : some (⟨none, noSlot, [(j, true, .vec U (xs.set e x'))]⟩ : Delta) = some δ := by
      split at q
      · simpa only [RM.run] using q
      · rw [forceL_eq] at q
        have h9 : setC U xs e o v.cells = xs.set e x' := by simp only [setC, hd]
        simpa only [RM.run, h9] using q
    simp only [Option.some.injEq] at q
    subst q
    have hcells := conc_cells hv hb.2
    have hlen := concCs_length hcells
    have henc := dec_enc hd
    have hpl : ∀ c ∈ v.cells, plain c = true := fun c hc => enc_plain U x' c (by rw [henc]; exact mem_splice hc)
    have hvals := plain_vals hpl hcells
    simp only [conc, conc2, concC, hj] at hc
    obtain ⟨b, off, hb1, hel, ea⟩ := hc
    obtain ⟨hcap, hrest⟩ := hh.blk j true _ hj
    rcases hrest with hz | ⟨b', off', E, vs, fz, hb2, hheap, hsize, hlies, hfz⟩
    · omega
    rw [hb1] at hb2
    cases hb2
    have hfz := hfz rfl
    subst hfz
    have hmul : xs.length * U.sz ≤ (env j).2 * U.sz := Nat.mul_le_mul_right _ hcap
    have hes : e * U.sz + U.sz ≤ xs.length * U.sz := by
      have : (e + 1) * U.sz ≤ xs.length * U.sz := Nat.mul_le_mul_right _ hel
      rw [Nat.add_mul, Nat.one_mul] at this
      exact this
    have hst := run_storeAt (w := w) hin (v := a.eval y) (us := v.cells.map svl) hvals (by simp; omega) hheap (o := off + e * U.sz + o) (by simp; omega) (by rw [← hvals]; exact solid_one hb.2 hcells)
    have hc0 : (env j).2 ≠ 0 := by omega
    have hown : ∀ ys : List U.El, own env j (.vec U ys) = some b := fun ys => by simp [own, hb1, hc0]
    have ex : Ext env H env (updH H [(j, true, .vec U (xs.set e x'))]) := ⟨fun k r c hk => ⟨rfl, by
      rw [updH_one]
      by_cases hkj : k = j
      · subst hkj; rw [hj] at hk; cases hk; rw [if_pos rfl]; exact ⟨_, _, rfl, rfl, by simp⟩
      · rw [if_neg hkj]; exact ⟨r, c, hk, stays_refl c⟩⟩⟩
    refine .inr (.inl ⟨w.setRow b _, by simp [execOp, ea, hst]; rfl, env, ex, ?_, fr_setRow (hh.wrt j _ hj b (hown _)), ⟨#[], rfl, trivial⟩⟩)
    refine hh.step (fun k => k = j) ex ?_ ?_
    · intro k r c hk hc
      rw [updH_one, if_neg hk] at hc
      refine ⟨hc, rfl, fun y' hy => setRow_other w b y' _ (fun e => ?_)⟩
      subst e
      exact hh.dj j k true _ r c (Ne.symm hk) hj hc (.inl rfl) _ (hown _) hy
    · intro k r c hk hc
      subst hk
      rw [updH_one, if_pos rfl] at hc
      cases hc
      refine ⟨⟨by simpa using hcap, .inr ⟨b, off, E, _, (0, 0), hb1, setRow_heap w b vs _ E (0, 0) hheap, ?_, ?_, fun _ => rfl⟩⟩, ?_⟩
      · simp; omega
      · have := lies_set hlies hel henc (by omega) (by omega)
        simpa using this
      · intro y' hy
        rw [hown] at hy
        cases hy
        refine ⟨fun _ => hh.wrt k _ hj b (hown _), ?_⟩
        intro k' r' b' hne hk' hy' _
        rw [updH_one, if_neg hne] at hk'
        exact hh.dj k k' true _ r' b' (Ne.symm hne) hj hk' (.inl rfl) _ (hown _) hy'
  · simp [RM.run] at q

end

end Go.Proofs.YtdhbkcaaijgocaaGreat.Sym

namespace Go.Proofs.YtdhbkcaaijgocaaGreat.Sym
open Go
set_option linter.unusedVariables false
set_option linter.unusedSimpArgs false

section
variable {P : Program} {wr : Nat → Prop} {env env' : Env} {H H' : Hp} {a : Act} {w w' : World} {T : Nat → SV} {δ : Delta}

theorem fold_set (off : Nat) : ∀ (us : List Value) (k : Nat) (cs : Array Value), off + k + us.length ≤ cs.size →
    ((us.zipIdx k).foldl (fun cs (c, j) => cs.setIfInBounds (off + j) c) cs).toList = cs.toList.take (off + k) ++ us ++ cs.toList.drop (off + k + us.length)
  | [], k, cs, _ => by simp
  | u :: r, k, cs, h => by
    simp only [List.length_cons] at h
    simp only [List.zipIdx_cons, List.foldl_cons]
    rw [fold_set off r (k + 1) _ (by simp; omega)]
    apply List.ext_getElem?
    intro q
    rw [show off + k + (u :: r).length = off + k + (u :: r).length from rfl, get_splice (l := cs.toList) (us := u :: r) (p := off + k) (by simp; omega)]
    have := get_splice (l := (cs.setIfInBounds (off + k) u).toList) (us := r) (p := off + (k + 1)) (by simp; omega) q
    rw [this]
    simp only [Array.toList_setIfInBounds, List.getElem?_set, List.length_cons, Array.length_toList]
    by_cases h1 : q < off + k
    · rw [if_pos (by omega), if_pos h1, if_neg (by omega)]
    · rw [if_neg h1]
      by_cases h2 : q = off + k
      · subst h2
        rw [if_pos (by omega), if_pos rfl, if_pos (by omega), if_pos (by omega)]
        simp
      · by_cases h3 : q < off + k + (r.length + 1)
        · rw [if_neg (by omega), if_pos (by omega), if_pos h3]
          rw [show q - (off + k) = (q - (off + (k + 1))) + 1 by omega, List.getElem?_cons_succ]
        · rw [if_neg (by omega), if_neg (by omega), if_neg h3, if_neg (by omega)]

def partsRel (env : Env) (H : Hp) : List (Nat × SV) → List (Nat × Value) → Prop
  | [], [] => True
  | (i, s) :: r, (j, v) :: t => i = j ∧ conc env H s v ∧ partsRel env H r t
  | _, _ => False

theorem opParts_inv {α : Type} (hs : ∀ d, conc env H (T d) (a.tmps.getD d undef)) : ∀ {xs : List (Nat × Operand)} {k : List (Nat × SV) → RM α} {r : α}, (opParts xs k).run T H = some r →
    ∃ ps, (k ps).run T H = some r ∧ partsRel env H ps (xs.map fun (i, x) => (i, a.eval x))
  | [], k, r, h => ⟨[], h, trivial⟩
  | (i, x) :: xs, k, r, h => by
    simp only [opParts] at h
    obtain ⟨s, q, hc⟩ := opv_inv hs h
    obtain ⟨ps, q, hps⟩ := opParts_inv hs q
    exact ⟨(i, s) :: ps, q, rfl, hc, hps⟩

theorem fill_ok {fields place : Nat → Option (Nat × Nat)} (hpl : ∀ i o n, fields i = some (o, n) → place i = some (o, n)) :
    ∀ {ps : List (Nat × SV)} {vs : List (Nat × Value)} {cells cs : List SV} {cv : Array Value}, partsRel env H ps vs → concCs env H cells cv.toList → fillS fields cells ps = some cs →
      ∃ vals, Instr.fill place cv vs = some vals ∧ concCs env H cs vals.toList
  | [], [], cells, cs, cv, _, hc, h => by
    simp only [fillS, Option.some.injEq] at h
    subst h
    exact ⟨cv, rfl, hc⟩
  | (i, s) :: r, (j, v) :: t, cells, cs, cv, hp, hc, h => by
    obtain ⟨rfl, hsv, hp⟩ := hp
    unfold fillS at h
    split at h
    case h_2 => cases h
    rename_i o n hf
    split at h
    case h_2 => cases h
    rename_i hb
    simp only [Bool.and_eq_true] at hb
    have h1 : s.cells.length = n := Nat.eq_of_beq_eq_true hb.1.1
    have h2 : o + n ≤ cells.length := Nat.le_of_ble_eq_true hb.1.2
    have hcells := conc_cells hsv hb.2
    have hl := concCs_length hcells
    have hl2 := concCs_length hc
    simp only [Array.length_toList] at hl hl2
    have hfold := fold_set o v.cells.toList 0 cv (by simp; omega)
    simp only [Nat.add_zero] at hfold
    have hnew : concCs env H (splice cells o s.cells) ((v.cells.toList.zipIdx 0).foldl (fun cs (c, j) => cs.setIfInBounds (o + j) c) cv).toList := by
      rw [hfold]
      simp only [splice]
      rw [show v.cells.toList.length = s.cells.length by simp; omega]
      exact concCs_append (concCs_append (concCs_take hc) hcells) (concCs_drop hc)
    obtain ⟨vals, hv, hcv⟩ := fill_ok hpl hp hnew h
    refine ⟨vals, ?_, hcv⟩
    unfold Instr.fill
    rw [hpl _ _ _ hf]
    simp only
    rw [if_neg (by simp; omega)]
    rw [← hv]
    congr 1
    rw [← Array.foldl_toList]
    simp

theorem build_ok (hh : HRel wr env H w) (hs : ∀ d, conc env H (T d) (a.tmps.getD d undef)) {tt : Types} (ht : TabOk P tt) {S : Tab} {d : Nat} {ps : Array (Nat × Operand)} {t : Nat} {ty : Nat} {pos : String} {af : Array Edge} {g : Option (Nat × Bool)}
    (h : (evOp tt S ⟨some d, .build t ps, ty, pos, af, g⟩).run T H = some δ) : Good P wr env H a w ⟨some d, .build t ps, ty, pos, af, g⟩ δ := by
  simp only [evOp] at h
  obtain ⟨i, hi, q⟩ := tiOf_inv h
  clear h
  obtain ⟨sp, h, hsp⟩ := opParts_inv hs q
  clear q
  split at h
  case h_2 => simp [RM.run] at h
  rename_i cs hag hf
  simp only [ret1, RM.run, Option.some.injEq] at h
  subst h
  obtain ⟨n, u, hin, hu, hsz, _, _, z, hz, hzf, _⟩ := typeOk_some (ht _ _ hi)
  obtain ⟨u', hu', hda⟩ := typeOk_agg (ht _ _ hi)
  rw [hu] at hu'
  cases hu'
  rw [hag] at hda
  -- a struct: an array has no entry in the table
  have hst : ∃ fs, u = .struct fs ∧ (fs.toList.map fun f => (f.offset, P.cellsOf f.type)) = i.fields ∧ ∀ f ∈ fs.toList, 0 < P.cellsOf f.type := by
    have h := ht _ _ hi
    unfold typeOk at h
    rw [hin, hu] at h
    simp only [Bool.and_eq_true] at h
    obtain ⟨_, h⟩ := h
    split at h
    case h_1 =>
      rename_i fs
      simp only [Bool.and_eq_true, beq_iff_eq] at h
      obtain ⟨⟨⟨⟨⟨_, h1⟩, h2⟩, _⟩, _⟩, _⟩ := h
      refine ⟨fs, rfl, h1, fun f hf => ?_⟩
      have := List.all_eq_true.1 h2 f hf
      simp only [Bool.and_eq_true, decide_eq_true_eq] at this
      exact this.1
    all_goals simp [hag] at h
  obtain ⟨fs, rfl, hfs, hpos⟩ := hst
  have hplaces : ∀ w, (fs.mapM fun f => (do pure (f.offset, ← sizeOf f.type) : Sem (Nat × Nat))).run P w = .ok (fs.map fun f => (f.offset, P.cellsOf f.type)) w := by
    intro w
    rw [Array.mapM_eq_mapM_toList]
    have : ∀ l : List Field, (∀ f ∈ l, 0 < P.cellsOf f.type) → (l.mapM fun f => (do pure (f.offset, ← sizeOf f.type) : Sem (Nat × Nat))).run P w = .ok (l.map fun f => (f.offset, P.cellsOf f.type)) w := by
      intro l
      induction l with
      | nil => intro _; rfl
      | cons f r ih =>
        intro hl
        have h1 : (sizeOf f.type).run P w = .ok (P.cellsOf f.type) w := sizeOf_run rfl (hl f (by simp))
        simp only [List.mapM_cons, Sem.run_bind, h1, Result.andThen_ok, Sem.run_pure, ih fun g hg => hl g (by simp [hg]), List.map_cons]
    simp only [Sem.run_map, this _ hpos, Result.andThen_ok]
    congr 1
    apply Array.ext'
    simp
  obtain ⟨vals, hv, hcv⟩ := fill_ok (place := ((fs.map fun f => (f.offset, P.cellsOf f.type))[·]?)) (fun k o m hk => by
    rw [← hfs] at hk
    simpa using hk) hsp (zero_conc hzf) hf
  refine good_pure (v := .agg vals) hh ?_ ⟨vals, rfl, hcv⟩
  have hpt : (ps.map fun (i, x) => (i, a.eval x)).toList = ps.toList.map fun (i, x) => (i, a.eval x) := by simp
  simp only [execOp, Instr.build, zeroValue, typeInfo, Sem.run_bind, run_program, Result.andThen_ok, hin, hz, Sem.run_pure, run_underlying hu, hplaces, hpt, hv]

theorem rep_ok {zs : List SV} {us : List Value} (hc : concCs env H zs us) : ∀ n, concCs env H (rep n zs) ((List.range (n * us.length)).map fun q => us.toArray[q % us.toArray.size]!)
  | 0 => by simp [rep, concCs]
  | n + 1 => by
    have ih := rep_ok hc n
    have : (n + 1) * us.length = us.length + n * us.length := by rw [Nat.add_mul, Nat.one_mul, Nat.add_comm]
    rw [this, List.range_add, List.map_append, List.map_map]
    simp only [rep]
    refine concCs_append ?_ ?_
    · have : (List.range us.length).map (fun q => us.toArray[q % us.toArray.size]!) = us := by
        apply List.ext_getElem
        · simp
        · intro q h1 h2
          simp at h1
          simp [Nat.mod_eq_of_lt h1, h1]
      rw [this]
      exact hc
    · have : ((fun q => us.toArray[q % us.toArray.size]!) ∘ fun x => us.length + x) = fun q => us.toArray[q % us.toArray.size]! := by
        funext q
        simp
      rw [this]
      exact ih

theorem decAll_length {U : Ty} : ∀ {cs : List (List SV)} {xs : List U.El}, decAll U cs = some xs → xs.length = cs.length
  | [], xs, h => by simp only [decAll, Option.some.injEq] at h; subst h; rfl
  | c :: r, xs, h => by
    unfold decAll at h
    split at h
    · rename_i x y h1 h2
      cases h
      simp [decAll_length h2]
    · cases h

theorem chunks_length {n : Nat} : ∀ {m : Nat} {cs : List SV}, (chunks n m cs).length = m
  | 0, _ => rfl
  | m + 1, cs => by simp [chunks, chunks_length (n := n) (m := m)]

/-- Cells that are read as elements lie as the elements do. -/
theorem lies_chunks {U : Ty} : ∀ {m : Nat} {cs : List SV} {xs : List U.El} {us : List Value}, decAll U (chunks U.sz m cs) = some xs → concCs env H cs us →
    ∀ e, e < xs.length → ∀ o, o < U.sz → us[e * U.sz + o]? = some (svl ((U.enc (U.ix xs e)).getD o .any))
  | 0, cs, xs, us, h, _ => by
    simp only [chunks, decAll, Option.some.injEq] at h
    subst h
    intro e he
    simp at he
  | m + 1, cs, xs, us, h, hc => by
    unfold chunks decAll at h
    split at h
    case h_2 => cases h
    rename_i x ys h1 h2
    cases h
    intro e he o ho
    have henc := dec_enc h1
    cases e with
    | zero =>
      have hpl : ∀ c ∈ cs.take U.sz, plain c = true := fun c hc => enc_plain U x c (by rw [henc]; exact hc)
      have hv := plain_vals hpl (concCs_take (n := U.sz) hc)
      have hl := enc_length U x
      have hx : U.ix (x :: ys) 0 = x := rfl
      rw [hx, henc]
      simp only [Nat.zero_mul, Nat.zero_add]
      have h3 : us[o]? = (us.take U.sz)[o]? := by rw [List.getElem?_take, if_pos ho]
      have h4 : o < (cs.take U.sz).length := by rw [← henc, hl]; exact ho
      have h5 : (cs.take U.sz)[o]? = some (cs.take U.sz)[o] := List.getElem?_eq_getElem h4
      rw [h3, hv, List.getElem?_map, List.getD_eq_getElem?_getD, h5]
      rfl
    | succ e =>
      have hx : U.ix (x :: ys) (e + 1) = U.ix ys e := by simp [Ty.ix, List.getD]
      rw [hx]
      have := lies_chunks (m := m) h2 (concCs_drop (n := U.sz) hc) e (by simpa using he) o ho
      rw [← this, List.getElem?_drop]
      congr 1
      rw [Nat.add_mul]
      omega

theorem zero_size {zs : List SV} {us : List Value} (h : zeroFits zs us = true) : us.length = zs.length := (concCs_length (zero_conc (env := fun _ => (none, 0)) (H := fun _ => none) h)).symm

theorem buildSlice_ok (hh : HRel wr env H w) (hnew : ∀ k, w.heap.size ≤ k → wr k) (hs : ∀ d, conc env H (T d) (a.tmps.getD d undef)) {tt : Types} (ht : TabOk P tt) {S : Tab} {d m : Nat} {ps : Array (Nat × Operand)} {t : Nat} {ty : Nat} {pos : String} {af : Array Edge} {g : Option (Nat × Bool)}
    (h : (evOp tt S ⟨some d, .buildSlice t m ps, ty, pos, af, g⟩).run T H = some δ) : Good P wr env H a w ⟨some d, .buildSlice t m ps, ty, pos, af, g⟩ δ := by
  simp only [evOp] at h
  obtain ⟨i, hi, q⟩ := tiOf_inv h
  clear h
  obtain ⟨e, he, h⟩ := tiOf_inv q
  clear q
  obtain ⟨sp, q, hsp⟩ := opParts_inv hs h
  clear h
  split at q
  case h_2 => simp [RM.run] at q
  rename_i U cs hU hf hle
  split at q
  case h_2 => simp [RM.run] at q
  rename_i xs hxs
  obtain ⟨hn, q⟩ := fresh_inv q
  simp only [RM.run, Option.some.injEq] at q
  subst q
  obtain ⟨hu, n, hin, hsz⟩ := typeOk_slice (ht _ _ hi) hU
  obtain ⟨n', u', hin', hu', hsz', _, hzl, z, hz, hzf, _⟩ := typeOk_some (ht _ _ he)
  rw [hin] at hin'
  cases hin'
  have hes : e.size = U.sz := by omega
  have hzs := zero_size hzf
  simp only [Array.length_toList] at hzs
  have hle := Nat.le_of_ble_eq_true hle
  have hrep := rep_ok (zero_conc (env := env) (H := H) hzf) m
  have hcells : concCs env H (rep m e.zero) (((Array.range (m * n.size)).map fun q => z.cells[q % z.cells.size]!)).toList := by
    have : z.cells.toList.length = n.size := by simp; omega
    rw [this] at hrep
    simpa using hrep
  obtain ⟨vals, hv, hcv⟩ := fill_ok (place := fun k => some (k * n.size, n.size)) (fun k o q hk => by rw [← hk, hsz', ]) hsp hcells hf
  have hxl := decAll_length hxs
  rw [chunks_length] at hxl
  have hli : Lies U xs vals 0 := by
    intro k hk o ho
    rw [hes] at hxs
    have := lies_chunks hxs hcv k hk o ho
    rw [Nat.zero_add]
    simpa using this
  have hcl := concCs_length hcv
  have hvs : m * U.sz ≤ vals.size := by
    have : ∀ {ps : List (Nat × SV)} {fields : Nat → Option (Nat × Nat)} {cells cs : List SV}, fillS fields cells ps = some cs → cs.length = cells.length := by
      intro ps
      induction ps with
      | nil => intro f c c' h; simp only [fillS, Option.some.injEq] at h; rw [h]
      | cons p r ih =>
        obtain ⟨k, s⟩ := p
        intro f c c' h
        unfold fillS at h
        split at h
        case h_2 => cases h
        split at h
        case h_2 => cases h
        rename_i hb
        simp only [Bool.and_eq_true] at hb
        have h1 := Nat.eq_of_beq_eq_true hb.1.1
        have h2 := Nat.le_of_ble_eq_true hb.1.2
        rw [ih h, splice_length (by omega)]
    have h1 := this hf
    have h2 := concCs_length hcells
    simp at h2 hcl
    rw [h2] at h1
    rw [← hcl, h1, hsz]
    exact Nat.le_refl _
  obtain ⟨env', r1, r2, r3, r4⟩ := vec_good (w' := { w with heap := w.heap.push (.cells vals i.elem (0, 0)) }) hh hnew hn (U := U) (xs := xs) (vs := vals) (E := i.elem) (c := m) (by omega) hvs hli rfl rfl rfl rfl
  refine .inl ⟨.slice (some ⟨w.heap.size, 0, none⟩) m m, _, ?_, env', r1, r2, r3, by rw [hxl] at r4; exact r4⟩
  have hpt : (ps.map fun (i, x) => (i, a.eval x)).toList = ps.toList.map fun (i, x) => (i, a.eval x) := by simp
  have hne : ¬ 2 ^ 24 < m * n.size := by rw [hsz']; omega
  by_cases h0 : m * n.size = 0
  · have hA : ∀ f : Nat → Value, (Array.range (m * n.size)).map f = #[] := fun f => by rw [h0]; simp
    rw [hA] at hv
    simp only [execOp, Instr.buildSlice, Sem.run_bind, run_underlying hu, Result.andThen_ok, run_sizeOf hin, hpt, hA]
    simp [hne, h0, hv, newRow]
  · simp only [execOp, Instr.buildSlice, Sem.run_bind, run_underlying hu, Result.andThen_ok, run_sizeOf hin, hpt]
    simp [hne, h0, zeroValue, typeInfo, hin, hz, hv, newRow]

end

end Go.Proofs.YtdhbkcaaijgocaaGreat.Sym

namespace Go.Proofs.YtdhbkcaaijgocaaGreat.Sym
open Go
set_option linter.unusedVariables false
set_option linter.unusedSimpArgs false

section
variable {P : Program} {wr : Nat → Prop} {env env' : Env} {H H' : Hp} {a : Act} {w w' : World} {T : Nat → SV} {δ : Delta}

theorem roomy_inv {α : Type} {e : TI} {k : RM α} {r : α} (h : (roomy e k).run T H = some r) : 0 < e.bytes ∧ k.run T H = some r := by
  unfold roomy at h
  split at h
  · rename_i hb
    exact ⟨Nat.le_of_ble_eq_true hb, h⟩
  · simp [RM.run] at h

theorem makeSlice_ok (hh : HRel wr env H w) (hnew : ∀ k, w.heap.size ≤ k → wr k) (hs : ∀ d, conc env H (T d) (a.tmps.getD d undef)) {tt : Types} (ht : TabOk P tt) {S : Tab} {d : Nat} {l c : Operand} {t : Nat} {ty : Nat} {pos : String} {af : Array Edge} {g : Option (Nat × Bool)}
    (h : (evOp tt S ⟨some d, .makeSlice t l c, ty, pos, af, g⟩).run T H = some δ) (hp : ∀ p, δ.ok = some p → p) : Good P wr env H a w ⟨some d, .makeSlice t l c, ty, pos, af, g⟩ δ := by
  simp only [evOp] at h
  obtain ⟨i, hi, q⟩ := tiOf_inv h
  clear h
  obtain ⟨e, he, h⟩ := tiOf_inv q
  clear q
  obtain ⟨s1, q, c1⟩ := opv_inv hs h
  clear h
  split at q
  case h_2 => simp [RM.run] at q
  rename_i x n
  obtain ⟨s2, h, c2⟩ := opv_inv hs q
  clear q
  split at h
  case h_2 => simp [RM.run] at h
  rename_i y m
  split at h
  case h_2 => simp [RM.run] at h
  rename_i U hU
  split at h
  case h_2 => simp [RM.run] at h
  rename_i z0 hz0
  obtain ⟨hbp, h⟩ := roomy_inv h
  obtain ⟨hn, h⟩ := fresh_inv h
  simp only [RM.run, Option.some.injEq] at h
  subst h
  obtain ⟨h0, rfl, hroom⟩ := hp _ rfl
  have e1 := conc_int c1
  have e2 := conc_int c2
  obtain ⟨hu, ni, hin, hsz⟩ := typeOk_slice (ht _ _ hi) hU
  obtain ⟨n', u', hin', hu', hsz', hby, hzl, z, hz, hzf, _⟩ := typeOk_some (ht _ _ he)
  rw [hin] at hin'
  cases hin'
  have hzc := zero_conc (env := env) (H := H) hzf
  have hzs := zero_size hzf
  simp only [Array.length_toList] at hzs
  have henc := dec_enc hz0
  have hv := plain_vals (fun c hc => enc_plain U z0 c (by rw [henc]; exact hc)) hzc
  unfold room at hroom
  have hb1 : 0 < ni.bytes ∨ ni.bytes = 0 := by omega
  have hnt : (n.toNat : Int) = n := by omega
  have hb : (ni.bytes : Int) * n ≤ 281474976710656 := by
    rw [← hnt, hby, ← Int.natCast_mul, Nat.mul_comm]
    omega
  obtain ⟨env', r1, r2, r3, r4⟩ := vec_good (w' := w.alloc (.cells (madeCells z.cells (n.toNat * ni.size)) i.elem)) hh hnew hn (U := U) (xs := List.replicate n.toNat z0) (vs := madeCells z.cells (n.toNat * ni.size)) (E := i.elem) (c := n.toNat)
    (by simp) (by rw [size_madeCells, hsz]; exact Nat.le_refl _) (by
      intro k hk o ho
      simp only [List.length_replicate] at hk
      have hlt : k * U.sz + o < n.toNat * U.sz := by
        have : (k + 1) * U.sz ≤ n.toNat * U.sz := Nat.mul_le_mul_right _ hk
        rw [Nat.add_mul, Nat.one_mul] at this
        omega
      have hix : U.ix (List.replicate n.toNat z0) k = z0 := by simp [Ty.ix, List.getD, hk]
      have hm : (k * U.sz + o) % z.cells.size = o := by
        rw [hzs, hzl, ← hsz', hsz, Nat.add_comm, Nat.add_mul_mod_self_right, Nat.mod_eq_of_lt ho]
      have hl := enc_length U z0
      have ho2 : o < z.cells.size := by rw [hzs, hzl, ← hsz', hsz]; exact ho
      rw [hix, Nat.zero_add]
      simp only [madeCells, Array.getElem?_map, hsz]
      rw [Array.getElem?_eq_getElem (by simpa using hlt)]
      simp only [Array.getElem_range, Option.map_some, hm]
      congr 1
      have h5 : z.cells.toList[o]? = some z.cells[o] := by simp [ho2]
      rw [hv, List.getElem?_map, ← henc] at h5
      have h6 : o < (U.enc z0).length := by omega
      rw [List.getElem?_eq_getElem h6] at h5
      simp only [Option.map_some, Option.some.injEq] at h5
      rw [getElem!_pos z.cells o ho2, ← h5]
      simp [List.getD, h6]) rfl rfl rfl rfl
  refine .inl ⟨.slice (some ⟨w.heap.size, 0, none⟩) n.toNat n.toNat, _, ?_, env', r1, r2, r3, by simpa using r4⟩
  have h63 : n ≤ 9223372036854775807 := by
    have : n.toNat * 1 ≤ n.toNat * e.bytes := Nat.mul_le_mul_left _ hbp
    omega
  simp [execOp, e1, e2, run_make w t i.elem ni z hu hin hz .i64 .i64 n n h0 (by omega) hb h63]

def flat (U : Ty) (xs : List U.El) : List Value := xs.flatMap fun x => (U.enc x).map svl

theorem flat_length (U : Ty) : ∀ xs : List U.El, (flat U xs).length = xs.length * U.sz
  | [] => by simp [flat]
  | x :: r => by
    have : flat U (x :: r) = (U.enc x).map svl ++ flat U r := rfl
    rw [this, List.length_append, List.length_map, enc_length, flat_length U r, List.length_cons, Nat.add_mul, Nat.one_mul, Nat.add_comm]

theorem flat_at (U : Ty) : ∀ (xs : List U.El) (e o : Nat), e < xs.length → o < U.sz → (flat U xs)[e * U.sz + o]? = some (svl ((U.enc (U.ix xs e)).getD o .any))
  | [], e, o, h, _ => by simp at h
  | x :: r, e, o, h, ho => by
    have hf : flat U (x :: r) = (U.enc x).map svl ++ flat U r := rfl
    have hl := enc_length U x
    cases e with
    | zero =>
      have hix : U.ix (x :: r) 0 = x := rfl
      rw [hf, hix, Nat.zero_mul, Nat.zero_add, List.getElem?_append_left (by simp; omega), List.getElem?_map, List.getElem?_eq_getElem (by omega)]
      simp [List.getD, show o < (U.enc x).length by omega]
    | succ e =>
      have hix : U.ix (x :: r) (e + 1) = U.ix r e := by simp [Ty.ix, List.getD]
      rw [hf, hix, List.getElem?_append_right (by simp [Nat.add_mul]; omega)]
      rw [← flat_at U r e o (by simpa using h) ho]
      congr 1
      simp [Nat.add_mul]
      omega

theorem lies_flat {U : Ty} {xs : List U.El} {vs : Array Value} {off : Nat} : Lies U xs vs off ↔ ∀ q v, (flat U xs)[q]? = some v → vs[off + q]? = some v := by
  constructor
  · intro h q v hq
    have hlt : q < (flat U xs).length := (List.getElem?_eq_some_iff.1 hq).1
    rw [flat_length] at hlt
    have hs := sz_pos U
    have h1 : q / U.sz < xs.length := by rw [Nat.div_lt_iff_lt_mul hs]; exact hlt
    have h2 : q % U.sz < U.sz := Nat.mod_lt _ hs
    have h3 : q / U.sz * U.sz + q % U.sz = q := by rw [Nat.mul_comm]; exact Nat.div_add_mod q U.sz
    have h4 := flat_at U xs _ _ h1 h2
    have h5 := h _ h1 _ h2
    rw [h3] at h4
    rw [Nat.add_assoc, h3] at h5
    rw [h4] at hq
    rw [h5, hq]
  · intro h e he o ho
    rw [Nat.add_assoc]
    exact h _ _ (flat_at U xs e o he ho)

theorem flat_append (U : Ty) (xs ys : List U.El) : flat U (xs ++ ys) = flat U xs ++ flat U ys := by simp [flat]

theorem castTo_inv {U V : Ty} {xs : List V.El} {ys : List U.El} (h : castTo U V xs = some ys) : ∃ e : V = U, e ▸ xs = ys := by
  cases U <;> cases V <;> first
    | (simp only [castTo, Option.some.injEq] at h; exact ⟨rfl, h⟩)
    | (simp only [castTo, reduceCtorEq] at h)

/-- What a source of elements is: a slice whose cells are the elements'. -/
def SrcOk (w : World) (U : Ty) (ys : List U.El) (u : Value) : Prop :=
  ∃ y c, u = .slice y ys.length c ∧ (0 < ys.length → ∃ b off, y = some ⟨b, off, none⟩ ∧ ∀ q v, (flat U ys)[q]? = some v → w.cell? ⟨b, off + q, none⟩ = some v)

theorem elems_inv {α : Type} (hh : HRel wr env H w) {U : Ty} {v : SV} {u : Value} {k : List U.El → RM α} {r : α} (h : (elems U v k).run T H = some r) (hc : conc env H v u) :
    ∃ ys, (k ys).run T H = some r ∧ SrcOk w U ys u := by
  unfold elems at h
  split at h
  · rename_i j
    simp only [RM.run] at h
    split at h
    case h_2 => simp [RM.run] at h
    rename_i rw V xs hj
    split at h
    case h_2 => simp [RM.run] at h
    rename_i ys hy
    obtain ⟨e, hy⟩ := castTo_inv hy
    subst e
    subst hy
    simp only [conc, conc2, concC, hj] at hc
    refine ⟨_, h, _, _, hc, fun h0 => ?_⟩
    obtain ⟨hl, hv⟩ := hh.blk j rw _ hj
    rcases hv with hv | ⟨b, off, E, vs, fz, hb, hheap, hsize, hlies, _⟩
    · simp only at h0; omega
    · exact ⟨b, off, hb, fun q v hq => by rw [cell_of hheap]; exact lies_flat.1 hlies q v hq⟩
  · rename_i j lo n
    simp only [RM.run] at h
    split at h
    case h_2 => simp [RM.run] at h
    rename_i rw V xs hj
    split at h
    case h_2 => simp [RM.run] at h
    rename_i ys hy
    obtain ⟨e, hy⟩ := castTo_inv hy
    subst e
    subst hy
    simp only [conc, conc2, concC, hj] at hc
    obtain ⟨hlo, y, hc, hy⟩ := hc
    have hlen : ((xs.drop lo).take n).length = n := by simp; omega
    refine ⟨_, h, y, _, by rw [hlen]; exact hc, fun h0 => ?_⟩
    simp only [hlen] at h0
    obtain ⟨hl, hv⟩ := hh.blk j rw _ hj
    rcases hv with hv | ⟨b, off, E, vs, fz, hb, hheap, hsize, hlies, _⟩
    · omega
    · rcases hy with hy | hy
      · omega
      · rw [hb] at hy
        simp only [Option.map_some, add_addr] at hy
        refine ⟨b, off + lo * V.sz, hy, ?_⟩
        have : Lies V ((xs.drop lo).take n) vs (off + lo * V.sz) := by
          intro e he o ho
          rw [hlen] at he
          have h1 := hlies (lo + e) (by omega) o ho
          have hix : V.ix ((xs.drop lo).take n) e = V.ix xs (lo + e) := by
            simp [Ty.ix, List.getD, List.getElem?_take, he]
          rw [hix, ← h1]
          congr 1
          rw [Nat.add_mul]
          omega
        exact fun q v hq => by rw [cell_of hheap]; exact lies_flat.1 this q v hq
  · obtain ⟨y, hc⟩ := hc
    exact ⟨[], h, y, 0, hc, fun h0 => by simp at h0⟩
  · simp [RM.run] at h

theorem flat_one (U : Ty) (ys : List U.El) : ∀ v ∈ flat U ys, v.oneCell' = true := by
  intro v hv
  simp only [flat, List.mem_flatMap, List.mem_map] at hv
  obtain ⟨x, _, c, hc, rfl⟩ := hv
  have := enc_plain U x c hc
  cases c <;> first | rfl | (cases this)

theorem run_append_zero {t ty e : Nat} {n : TypeInfo} (hu : P.underlying t = some (.slice e)) (hn : P.info? e = some n) (base : Option Addr) (l c : Nat) (y : Option Addr) (c' : Nat) (hl : l ≤ c) :
    (Builtin.append_ #[t, t] ty #[.slice base l c, .slice y 0 c']).run P w = .ok (.slice base l c) w := by
  have h0 : ∀ w, (Builtin.firstCells n.size 0 (.slice y 0 c')).run P w = .ok #[] w := by
    intro w
    cases y with
    | none => simp [Builtin.firstCells]
    | some b => simp [Builtin.firstCells, loadCells, loadCellsFrom]
  cases base with
  | none => simp [Builtin.append_, run_underlying hu, run_sizeOf hn, Builtin.lenOf, hl, h0]
  | some b => simp [Builtin.append_, run_underlying hu, run_sizeOf hn, Builtin.lenOf, hl, h0, storeCells]

theorem run_append_room2 {t ty e : Nat} {i : TypeInfo} (ht : P.underlying t = some (.slice e)) (hi : P.info? e = some i) {g off sLen sCap : Nat} {cur : Array Value} {E : Nat} (hg : w.heap[g]? = some (.cells cur E (0, 0)))
    {b : Addr} {m c : Nat} {news : List Value} (hl : news.length = m * i.size) (hnews : ∀ j u, news[j]? = some u → w.cell? (b.add j) = some u) (h1 : ∀ u ∈ news, u.oneCell' = true)
    (hroom : sLen + m ≤ sCap) (hfit : off + sLen * i.size + news.length ≤ cur.size) :
    (Builtin.append_ #[t, t] ty #[.slice (some ⟨g, off, none⟩) sLen sCap, .slice (some b) m c]).run P w =
      .ok (.slice (some ⟨g, off, none⟩) (sLen + m) sCap) (w.setRow g (cur.toList.take (off + sLen * i.size) ++ news ++ cur.toList.drop (off + sLen * i.size + news.length)).toArray) := by
  have hf := run_firstCells_some (P := P) w i.size m b m c news hl hnews
  have hst := run_storeCells_at P g (off + sLen * i.size) E news 0 cur w hg (by simpa using hfit) h1
  simp only [Nat.add_zero] at hst
  simp [Builtin.append_, run_underlying ht, run_sizeOf hi, Builtin.lenOf, hroom, hf, add_addr, hst]

theorem grownCap_need (need old : Nat) (e : Nat) : need ≤ grownCap w need old e := grownCap_ge w need old e

/-- A list goes over from one name to another. -/
theorem HRel.over (hh : HRel wr env H w) {j n : Nat} {U : Ty} {xs zs : List U.El} (hj : H j = some (true, .vec U xs)) (hn : H n = none) {x : Option Addr × Nat}
    (hw : ∀ y, y < w.heap.size → own env j (.vec U xs) ≠ some y → w'.heap[y]? = w.heap[y]?) (hnew : ∀ k, w.heap.size ≤ k → wr k)
    (hb : ∀ H', blkRel (envSet env n x) H' n true (.vec U zs) w') (ho : ∀ y, own (envSet env n x) n (.vec U zs) = some y → own env j (.vec U xs) = some y ∨ w.heap.size ≤ y) :
    Ext env H (envSet env n x) (updH H [(j, true, .dead), (n, true, .vec U zs)]) ∧ HRel wr (envSet env n x) (updH H [(j, true, .dead), (n, true, .vec U zs)]) w' := by
  have hjn : j ≠ n := fun e => by subst e; rw [hn] at hj; cases hj
  have ow : ∀ k b, k ≠ n → own (envSet env n x) k b = own env k b := fun k b e => by cases b <;> simp [own, envSet, e]
  have ex : Ext env H (envSet env n x) (updH H [(j, true, .dead), (n, true, .vec U zs)]) := ⟨fun k r c hk => by
    have hne : k ≠ n := fun e => by subst e; rw [hn] at hk; cases hk
    refine ⟨by simp [envSet, hne], ?_⟩
    rw [updH_two]
    by_cases hkj : k = j
    · rw [if_pos hkj]; exact ⟨_, _, rfl, by cases c <;> trivial⟩
    · rw [if_neg hkj, if_neg hne]; exact ⟨r, c, hk, stays_refl c⟩⟩
  refine ⟨ex, hh.step (fun k => k = j ∨ k = n) ex ?_ ?_⟩
  · intro k r c hk hc
    have h1 : k ≠ j := fun e => hk (.inl e)
    have h2 : k ≠ n := fun e => hk (.inr e)
    rw [updH_two, if_neg h1, if_neg h2] at hc
    refine ⟨hc, by simp [envSet, h2], fun y hy => hw y (own_lt hh hc hy) (fun e => ?_)⟩
    exact hh.dj j k true _ r c (Ne.symm h1) hj hc (.inl rfl) y e hy
  · intro k r c hk hc
    by_cases h1 : k = j
    · subst h1
      rw [updH_two, if_pos rfl] at hc
      cases hc
      exact ⟨trivial, fun y hy => by simp [own] at hy⟩
    · have h2 : k = n := hk.resolve_left h1
      subst h2
      rw [updH_two, if_neg h1, if_pos rfl] at hc
      cases hc
      refine ⟨hb _, fun y hy => ⟨fun _ => ?_, ?_⟩⟩
      · rcases ho y hy with h | h
        · exact hh.wrt j _ hj y h
        · exact hnew y h
      · intro k' r' b' hne hk' hy' _
        by_cases h3 : k' = j
        · subst h3
          rw [updH_two, if_pos rfl] at hk'
          cases hk'
          simp [own] at hy'
        · rw [updH_two, if_neg h3, if_neg hne] at hk'
          rw [ow _ _ hne] at hy'
          rcases ho y hy with h | h
          · exact hh.dj j k' true _ r' b' (Ne.symm h3) hj hk' (.inl rfl) y h hy'
          · have := own_lt hh hk' hy'
            omega

theorem append_good (hh : HRel wr env H w) (hnew : ∀ k, w.heap.size ≤ k → wr k) {t ty e : Nat} {ni : TypeInfo} {z : Value} {U : Ty} (hu : P.underlying t = some (.slice e)) (hin : P.info? e = some ni) (hsz : ni.size = U.sz) (hz : ni.zero = some z)
    (hzs : z.cells.size = U.sz) {j n : Nat} {xs ys : List U.El} (hj : H j = some (true, .vec U xs)) (hn : H n = none) {u : Value} (hs : SrcOk w U ys u) (hb0 : 0 < ni.bytes) (hr : (xs.length + ys.length) * ni.bytes ≤ room) :
    ∃ v w', (Builtin.append_ #[t, t] ty #[.slice (env j).1 xs.length (env j).2, u]).run P w = .ok v w' ∧ ∃ env', Ext env H env' (updH H [(j, true, .dead), (n, true, .vec U (xs ++ ys))]) ∧
      HRel wr env' (updH H [(j, true, .dead), (n, true, .vec U (xs ++ ys))]) w' ∧ Fr wr w w' ∧ conc env' (updH H [(j, true, .dead), (n, true, .vec U (xs ++ ys))]) (.vec n) v := by
  have hjn : j ≠ n := fun e => by subst e; rw [hn] at hj; cases hj
  have hcv : ∀ (env' : Env), conc env' (updH H [(j, true, .dead), (n, true, .vec U (xs ++ ys))]) (.vec n) (.slice (env' n).1 (xs ++ ys).length (env' n).2) := by
    intro env'
    simp only [conc, conc2, concC, updH_two, if_neg (Ne.symm hjn), if_true]
  obtain ⟨hl, hv⟩ := hh.blk j true _ hj
  obtain ⟨y, c, rfl, hsrc⟩ := hs
  unfold room at hr
  have hneed : xs.length + ys.length ≤ (xs.length + ys.length) * ni.bytes := Nat.le_mul_of_pos_right _ hb0
  by_cases h0 : ys.length = 0
  · have hy : ys = [] := List.length_eq_zero_iff.1 h0
    subst hy
    refine ⟨_, w, by rw [show ([] : List U.El).length = 0 from rfl]; exact run_append_zero hu hin _ _ _ _ _ hl, envSet env n (env j), ?_⟩
    have := hh.over (w' := w) (zs := xs ++ []) hj hn (x := env j) (fun _ _ _ => rfl) hnew (fun H' => by
      refine ⟨by simpa [envSet] using hl, ?_⟩
      simpa [envSet] using hv) (fun y hy => .inl (by simpa [own, envSet] using hy))
    refine ⟨this.1, this.2, .refl _ _, ?_⟩
    have := hcv (envSet env n (env j))
    simpa [envSet] using this
  · obtain ⟨b', off', rfl, hcells⟩ := hsrc (by omega)
    have hflat : (flat U ys).length = ys.length * ni.size := by rw [flat_length, hsz]
    have hnews : ∀ q v, (flat U ys)[q]? = some v → w.cell? ((⟨b', off', none⟩ : Addr).add q) = some v := fun q v h => by rw [add_addr]; exact hcells q v h
    by_cases hroom : xs.length + ys.length ≤ (env j).2
    · rcases hv with hv | ⟨b, off, E, vs, fz, hb, hheap, hsize, hlies, hfz⟩
      · omega
      have hfz := hfz rfl
      subst hfz
      have hm : (xs.length + ys.length) * U.sz ≤ (env j).2 * U.sz := Nat.mul_le_mul_right _ hroom
      rw [Nat.add_mul] at hm
      have hrun := run_append_room2 (P := P) (w := w) (ty := ty) hu hin (g := b) (off := off) (sLen := xs.length) (sCap := (env j).2) hheap (c := c) hflat hnews (flat_one U ys) hroom (by rw [hflat, hsz]; omega)
      rw [hb]
      have hown : own env j (.vec U xs) = some b := by simp [own, hb]; omega
      refine ⟨_, _, hrun, envSet env n (env j), ?_⟩
      have hnewl : Lies U (xs ++ ys) (vs.toList.take (off + xs.length * ni.size) ++ flat U ys ++ vs.toList.drop (off + xs.length * ni.size + (flat U ys).length)).toArray off := by
        rw [lies_flat]
        intro q v hq
        rw [flat_append] at hq
        have hfx := flat_length U xs
        have hfy := flat_length U ys
        have hlt : q < (flat U xs ++ flat U ys).length := (List.getElem?_eq_some_iff.1 hq).1
        simp only [List.length_append] at hlt
        rw [List.getElem?_toArray, get_splice (by rw [hfy, hsz]; simp; omega), hsz, hfy]
        by_cases h1 : q < xs.length * U.sz
        · rw [if_pos (by omega), Array.getElem?_toList]
          rw [List.getElem?_append_left (by omega)] at hq
          exact lies_flat.1 hlies q v hq
        · rw [if_neg (by omega), if_pos (by omega)]
          rw [List.getElem?_append_right (by omega)] at hq
          rw [← hq]
          congr 1
          omega
      have := hh.over (w' := w.setRow b (vs.toList.take (off + xs.length * ni.size) ++ flat U ys ++ vs.toList.drop (off + xs.length * ni.size + (flat U ys).length)).toArray) (zs := xs ++ ys) hj hn (x := env j) (fun y _ hy => setRow_other w b y _ (fun e => hy (e ▸ hown))) hnew (fun H' => by
        refine ⟨by simp [envSet]; omega, .inr ⟨b, off, E, _, (0, 0), by simp [envSet, hb], setRow_heap w b vs _ E (0, 0) hheap, ?_, hnewl, fun _ => rfl⟩⟩
        simp [envSet, hflat, hsz]
        omega) (fun y hy => .inl (by
          have h1 : own (envSet env n (env j)) n (.vec U (xs ++ ys)) = own env j (.vec U xs) := by simp [own, envSet]
          rw [← h1]; exact hy))
      refine ⟨this.1, this.2, fr_setRow (hh.wrt j _ hj b hown), ?_⟩
      have := hcv (envSet env n (env j))
      simpa [envSet, hb] using this
    · have hg : (env j).2 < xs.length + ys.length := by omega
      have hfit := growslice_fits (need := xs.length + ys.length) (old := (env j).2) (bytes := ni.bytes) hg (by omega)
      have h63 : ((xs.length + ys.length : Nat) : Int) ≤ 9223372036854775807 := by omega
      -- the old cells
      have hrun : ∃ olds : List Value, olds = flat U xs ∧ (Builtin.append_ #[t, t] ty #[.slice (env j).1 xs.length (env j).2, .slice (some ⟨b', off', none⟩) ys.length c]).run P w =
          .ok (.slice (some ⟨w.heap.size, 0, none⟩) (xs.length + ys.length) (grownCap w (xs.length + ys.length) (env j).2 e))
            (w.drew.alloc (.cells (olds.toArray ++ (flat U ys).toArray ++ Builtin.zeroCells z.cells (grownCap w (xs.length + ys.length) (env j).2 e - (xs.length + ys.length))) e)) := by
        refine ⟨_, rfl, ?_⟩
        rcases hv with hv | ⟨b, off, E, vs, fz, hb, hheap, hsize, hlies, hfz⟩
        · have hx : xs = [] := List.length_eq_zero_iff.1 (by omega)
          subst hx
          cases hbase : (env j).1 with
          | some q =>
            have := run_append_grow (P := P) w t ty e ni z hu hin hz q 0 (env j).2 [] (by simp) (by simp) ⟨b', off', none⟩ ys.length c (flat U ys) hflat hnews (by simpa using hg) (by simpa using h63) (by simpa using hfit)
            simpa [flat] using this
          | none =>
            have := run_append_nil (P := P) w t ty e ni z hu hin hz ⟨b', off', none⟩ ys.length c (flat U ys) hflat hnews (by omega) (by simpa using h63) (by simp at hr; omega)
            rw [hv]
            simpa [flat] using this
        · rw [hb]
          exact run_append_grow (P := P) w t ty e ni z hu hin hz ⟨b, off, none⟩ xs.length (env j).2 (flat U xs) (by rw [flat_length, hsz]) (fun q v h => by rw [add_addr, cell_of hheap]; exact lies_flat.1 hlies q v h)
            ⟨b', off', none⟩ ys.length c (flat U ys) hflat hnews hg h63 hfit
      obtain ⟨olds, rfl, hrun⟩ := hrun
      have hcap := grownCap_need (w := w) (xs.length + ys.length) (env j).2 e
      generalize grownCap w (xs.length + ys.length) (env j).2 e = gc at hrun hcap
      obtain ⟨f1, f2⟩ := fr_alloc (wr := wr) (w := w) (w' := w.drew.alloc (.cells ((flat U xs).toArray ++ (flat U ys).toArray ++ Builtin.zeroCells z.cells (gc - (xs.length + ys.length))) e)) (o := .cells ((flat U xs).toArray ++ (flat U ys).toArray ++ Builtin.zeroCells z.cells (gc - (xs.length + ys.length))) e) rfl rfl rfl rfl
      refine ⟨_, _, hrun, envSet env n (some ⟨w.heap.size, 0, none⟩, gc), ?_⟩
      have := hh.over (w' := w.drew.alloc (.cells ((flat U xs).toArray ++ (flat U ys).toArray ++ Builtin.zeroCells z.cells (gc - (xs.length + ys.length))) e)) (zs := xs ++ ys) hj hn
        (x := (some ⟨w.heap.size, 0, none⟩, gc)) (fun y hy _ => f2 y hy) hnew (fun H' => by
          refine ⟨by simpa [envSet] using hcap, .inr ⟨w.heap.size, 0, e, (flat U xs).toArray ++ (flat U ys).toArray ++ Builtin.zeroCells z.cells (gc - (xs.length + ys.length)), (0, 0), by simp [envSet], Array.getElem?_push_size, ?_, ?_, fun _ => rfl⟩⟩
          · have : gc * U.sz = (xs.length + ys.length) * U.sz + (gc - (xs.length + ys.length)) * U.sz := by
              rw [← Nat.add_mul]; congr 1; omega
            simp only [envSet, if_true]
            rw [this, Nat.add_mul]
            simp [flat_length, size_zeroCells, hzs]
          · rw [lies_flat]
            intro q v hq
            rw [flat_append] at hq
            have hlt : q < (flat U xs ++ flat U ys).length := (List.getElem?_eq_some_iff.1 hq).1
            rw [Nat.zero_add, Array.getElem?_append_left (by simpa using hlt)]
            simpa using hq) (fun y hy => .inr (by
              simp only [own, envSet, if_true] at hy
              split at hy
              · cases hy
              · simp at hy; omega))
      refine ⟨this.1, this.2, f1, ?_⟩
      have := hcv (envSet env n (some ⟨w.heap.size, 0, none⟩, gc))
      simpa [envSet] using this

theorem append_nil_good (hh : HRel wr env H w) (hnew : ∀ k, w.heap.size ≤ k → wr k) {t ty e : Nat} {ni : TypeInfo} {z : Value} {U : Ty} (hu : P.underlying t = some (.slice e)) (hin : P.info? e = some ni) (hsz : ni.size = U.sz) (hz : ni.zero = some z)
    (hzs : z.cells.size = U.sz) {n : Nat} {ys : List U.El} (hn : H n = none) {x : Option Addr} {u : Value} (hs : SrcOk w U ys u) (hb0 : 0 < ni.bytes) (hr : ys.length * ni.bytes ≤ room) :
    ∃ v w', (Builtin.append_ #[t, t] ty #[.slice x 0 0, u]).run P w = .ok v w' ∧ ∃ env', Ext env H env' (updH H [(n, true, .vec U ys)]) ∧
      HRel wr env' (updH H [(n, true, .vec U ys)]) w' ∧ Fr wr w w' ∧ conc env' (updH H [(n, true, .vec U ys)]) (.vec n) v := by
  obtain ⟨y, c, rfl, hsrc⟩ := hs
  unfold room at hr
  have hneed : ys.length ≤ ys.length * ni.bytes := Nat.le_mul_of_pos_right _ hb0
  have hcv : ∀ (env' : Env), conc env' (updH H [(n, true, .vec U ys)]) (.vec n) (.slice (env' n).1 ys.length (env' n).2) := by
    intro env'
    simp only [conc, conc2, concC, updH_one, if_true]
  by_cases h0 : ys.length = 0
  · have hy : ys = [] := List.length_eq_zero_iff.1 h0
    subst hy
    refine ⟨_, w, run_append_zero hu hin _ _ _ _ _ (Nat.le_refl 0), envSet env n (x, 0), ?_⟩
    have := hh.add (w' := w) hn (rw := true) (b := .vec U []) (x := (x, 0)) (fun _ _ => rfl) hnew (fun H' _ => ⟨by simp, .inl (by simp [envSet])⟩) (fun y hy => by simp [own, envSet] at hy)
    refine ⟨this.1, this.2, .refl _ _, ?_⟩
    have := hcv (envSet env n (x, 0))
    simpa [envSet] using this
  · obtain ⟨b', off', rfl, hcells⟩ := hsrc (by omega)
    have hflat : (flat U ys).length = ys.length * ni.size := by rw [flat_length, hsz]
    have hnews : ∀ q v, (flat U ys)[q]? = some v → w.cell? ((⟨b', off', none⟩ : Addr).add q) = some v := fun q v h => by rw [add_addr]; exact hcells q v h
    have hfit := growslice_fits (need := ys.length) (old := 0) (bytes := ni.bytes) (by omega) (by omega)
    have h63 : (ys.length : Int) ≤ 9223372036854775807 := by omega
    have hrun : (Builtin.append_ #[t, t] ty #[.slice x 0 0, .slice (some ⟨b', off', none⟩) ys.length c]).run P w =
          .ok (.slice (some ⟨w.heap.size, 0, none⟩) ys.length (grownCap w ys.length 0 e))
            (w.drew.alloc (.cells ((flat U ys).toArray ++ Builtin.zeroCells z.cells (grownCap w ys.length 0 e - ys.length)) e)) := by
      cases x with
      | some q =>
        have := run_append_grow (P := P) w t ty e ni z hu hin hz q 0 0 [] (by simp) (by simp) ⟨b', off', none⟩ ys.length c (flat U ys) hflat hnews (by omega) (by simpa using h63) (by simpa using hfit)
        simpa using this
      | none =>
        exact run_append_nil (P := P) w t ty e ni z hu hin hz ⟨b', off', none⟩ ys.length c (flat U ys) hflat hnews (by omega) h63 (by omega)
    have hcap := grownCap_need (w := w) ys.length 0 e
    generalize grownCap w ys.length 0 e = gc at hrun hcap
    obtain ⟨env', r1, r2, r3, r4⟩ := vec_good (w' := w.drew.alloc (.cells ((flat U ys).toArray ++ Builtin.zeroCells z.cells (gc - ys.length)) e)) hh hnew hn (U := U) (xs := ys) (vs := (flat U ys).toArray ++ Builtin.zeroCells z.cells (gc - ys.length)) (E := e) (c := gc) hcap (by
      have : gc * U.sz = ys.length * U.sz + (gc - ys.length) * U.sz := by rw [← Nat.add_mul]; congr 1; omega
      rw [this]
      simp [flat_length, size_zeroCells, hzs]) (by
      rw [lies_flat]
      intro q v hq
      have hlt : q < (flat U ys).length := (List.getElem?_eq_some_iff.1 hq).1
      rw [Nat.zero_add, Array.getElem?_append_left (by simpa using hlt)]
      simpa using hq) rfl rfl rfl rfl
    exact ⟨_, _, hrun, env', r1, r2, r3, r4⟩

theorem flat_take (U : Ty) : ∀ (xs : List U.El) (o : Nat), flat U (xs.take o) = (flat U xs).take (o * U.sz)
  | [], o => by simp [flat]
  | x :: r, 0 => by simp [flat]
  | x :: r, o + 1 => by
    have h1 : flat U (x :: r) = (U.enc x).map svl ++ flat U r := rfl
    have h2 : flat U ((x :: r).take (o + 1)) = (U.enc x).map svl ++ flat U (r.take o) := rfl
    have hl : ((U.enc x).map svl).length = U.sz := by rw [List.length_map, enc_length]
    have e : (o + 1) * U.sz = ((U.enc x).map svl).length + o * U.sz := by rw [hl, Nat.add_mul, Nat.one_mul, Nat.add_comm]
    rw [h1, h2, flat_take U r o, e, List.take_length_add_append]
theorem flat_drop (U : Ty) : ∀ (xs : List U.El) (o : Nat), flat U (xs.drop o) = (flat U xs).drop (o * U.sz)
  | [], o => by simp [flat]
  | x :: r, 0 => by simp
  | x :: r, o + 1 => by
    have h1 : flat U (x :: r) = (U.enc x).map svl ++ flat U r := rfl
    have hl : ((U.enc x).map svl).length = U.sz := by rw [List.length_map, enc_length]
    have e : (o + 1) * U.sz = ((U.enc x).map svl).length + o * U.sz := by rw [hl, Nat.add_mul, Nat.one_mul, Nat.add_comm]
    rw [h1, List.drop_succ_cons, flat_drop U r o, e, List.drop_length_add_append]
theorem length_spl {α : Type} {xs ys : List α} {o : Nat} (h : o + ys.length ≤ xs.length) : (spl xs o ys).length = xs.length := by
  simp [spl]; omega
theorem spl_nil {α : Type} (xs : List α) (o : Nat) : spl xs o [] = xs := by simp [spl]

/-- A part of a list that may be written is written over. -/
theorem splice_good (hh : HRel wr env H w) {j o : Nat} {U : Ty} {xs ys : List U.El} (hj : H j = some (true, .vec U xs)) (hle : o + ys.length ≤ xs.length) (hpos : 0 < ys.length) :
    ∃ b off E vs, (env j).1 = some ⟨b, off, none⟩ ∧ w.heap[b]? = some (.cells vs E (0, 0)) ∧ off + (env j).2 * U.sz ≤ vs.size ∧ xs.length ≤ (env j).2 ∧
      ∀ w', w' = w.setRow b (vs.toList.take (off + o * U.sz) ++ flat U ys ++ vs.toList.drop (off + o * U.sz + (flat U ys).length)).toArray →
        Ext env H env (updH H [(j, true, .vec U (spl xs o ys))]) ∧ HRel wr env (updH H [(j, true, .vec U (spl xs o ys))]) w' ∧ Fr wr w w' := by
  obtain ⟨hcap, hrest⟩ := hh.blk j true _ hj
  rcases hrest with hz | ⟨b, off, E, vs, fz, hb1, hheap, hsize, hlies, hfz⟩
  · omega
  have hfz := hfz rfl
  subst hfz
  refine ⟨b, off, E, vs, hb1, hheap, hsize, hcap, ?_⟩
  rintro w' rfl
  have hown : ∀ zs : List U.El, own env j (.vec U zs) = some b := fun zs => by simp [own, hb1]; omega
  have hlen := length_spl hle
  have hfy := flat_length U ys
  have hfx := flat_length U xs
  have hm : (o + ys.length) * U.sz ≤ xs.length * U.sz := Nat.mul_le_mul_right _ hle
  have hc2 : xs.length * U.sz ≤ (env j).2 * U.sz := Nat.mul_le_mul_right _ hcap
  have ha : (o + ys.length) * U.sz = o * U.sz + ys.length * U.sz := Nat.add_mul _ _ _
  have ex : Ext env H env (updH H [(j, true, .vec U (spl xs o ys))]) := ⟨fun k r c hk => ⟨rfl, by
    rw [updH_one]
    by_cases hkj : k = j
    · subst hkj; rw [hj] at hk; cases hk; rw [if_pos rfl]; exact ⟨_, _, rfl, rfl, hlen.symm⟩
    · rw [if_neg hkj]; exact ⟨r, c, hk, stays_refl c⟩⟩⟩
  refine ⟨ex, ?_, fr_setRow (hh.wrt j _ hj b (hown _))⟩
  refine hh.step (fun k => k = j) ex ?_ ?_
  · intro k r c hk hc
    rw [updH_one, if_neg hk] at hc
    refine ⟨hc, rfl, fun y' hy => setRow_other w b y' _ (fun e => ?_)⟩
    subst e
    exact hh.dj j k true _ r c (Ne.symm hk) hj hc (.inl rfl) _ (hown _) hy
  · intro k r c hk hc
    subst hk
    rw [updH_one, if_pos rfl] at hc
    cases hc
    refine ⟨⟨by rw [hlen]; exact hcap, .inr ⟨b, off, E, _, (0, 0), hb1, setRow_heap w b vs _ E (0, 0) hheap, ?_, ?_, fun _ => rfl⟩⟩, ?_⟩
    · simp [hfy]; omega
    · rw [lies_flat]
      intro q v hq
      have hF : ∀ q v, (flat U xs)[q]? = some v → vs[off + q]? = some v := lies_flat.1 hlies
      have hG : flat U (spl xs o ys) = (flat U xs).take (o * U.sz) ++ flat U ys ++ (flat U xs).drop ((o + ys.length) * U.sz) := by
        unfold spl
        rw [flat_append, flat_append, flat_take, flat_drop]
      have hqlt : q < (flat U (spl xs o ys)).length := (List.getElem?_eq_some_iff.1 hq).1
      rw [flat_length, hlen] at hqlt
      have hd : (o + ys.length) * U.sz = o * U.sz + (flat U ys).length := by rw [hfy, ha]
      rw [hG, hd, get_splice (by rw [hfy]; omega)] at hq
      rw [List.getElem?_toArray, get_splice (by rw [hfy]; simp; omega)]
      split at hq
      · rw [if_pos (by omega), Array.getElem?_toList]
        exact hF q v hq
      · rename_i h1
        rw [if_neg (by omega)]
        split at hq
        · rw [if_pos (by omega), ← hq]
          congr 1
          omega
        · rw [if_neg (by omega), Array.getElem?_toList]
          exact hF q v hq
    · intro y' hy
      rw [hown] at hy
      cases hy
      refine ⟨fun _ => hh.wrt k _ hj b (hown _), ?_⟩
      intro k' r' b' hne hk' hy' _
      rw [updH_one, if_neg hne] at hk'
      exact hh.dj k k' true _ r' b' (Ne.symm hne) hj hk' (.inl rfl) _ (hown _) hy'

theorem updH_same {j : Nat} {e : Ent} (hj : H j = some e) : updH H [(j, e)] = H := by
  funext k
  rw [updH_one]
  split
  · rename_i h; rw [h, hj]
  · rfl

theorem append_part_good (hh : HRel wr env H w) {t ty e : Nat} {ni : TypeInfo} {U : Ty} (hu : P.underlying t = some (.slice e)) (hin : P.info? e = some ni) (hsz : ni.size = U.sz)
    {j lo n : Nat} {xs ys : List U.El} (hj : H j = some (true, .vec U xs)) {v1 u : Value} (hv : concC env H (.sl j lo n) v1) (hs : SrcOk w U ys u) (hle : lo + n + ys.length ≤ xs.length) :
    ∃ v w', (Builtin.append_ #[t, t] ty #[v1, u]).run P w = .ok v w' ∧ Ext env H env (updH H [(j, true, .vec U (spl xs (lo + n) ys))]) ∧
      HRel wr env (updH H [(j, true, .vec U (spl xs (lo + n) ys))]) w' ∧ Fr wr w w' ∧ conc env (updH H [(j, true, .vec U (spl xs (lo + n) ys))]) (.sl j lo (n + ys.length)) v := by
  simp only [concC, hj] at hv
  obtain ⟨h1, x, rfl, h2⟩ := hv
  obtain ⟨y, c, rfl, hsrc⟩ := hs
  have hcap := (hh.blk j true _ hj).1
  have hlen := length_spl hle
  by_cases h0 : ys.length = 0
  · have hy : ys = [] := List.length_eq_zero_iff.1 h0
    subst hy
    rw [spl_nil, updH_same hj]
    refine ⟨_, w, run_append_zero hu hin _ _ _ _ _ (by omega), .refl _ _, hh, .refl _ _, ?_⟩
    simp only [conc, conc2, concC, hj]
    exact ⟨by simpa using h1, _, rfl, h2⟩
  · obtain ⟨b', off', rfl, hcells⟩ := hsrc (by omega)
    have hflat : (flat U ys).length = ys.length * ni.size := by rw [flat_length, hsz]
    have hnews : ∀ q v, (flat U ys)[q]? = some v → w.cell? ((⟨b', off', none⟩ : Addr).add q) = some v := fun q v h => by rw [add_addr]; exact hcells q v h
    obtain ⟨b, off, E, vs, hb, hheap, hsize, _, hgood⟩ := splice_good hh hj hle (by omega)
    rcases h2 with h2 | h2
    · omega
    rw [hb] at h2
    simp only [Option.map_some, add_addr] at h2
    subst h2
    have hm : (lo + n + ys.length) * U.sz ≤ (env j).2 * U.sz := Nat.mul_le_mul_right _ (by omega)
    have ha : (lo + n + ys.length) * U.sz = lo * U.sz + n * U.sz + ys.length * U.sz := by rw [Nat.add_mul, Nat.add_mul]
    have hrun := run_append_room2 (P := P) (w := w) (ty := ty) hu hin (g := b) (off := off + lo * U.sz) (sLen := n) (sCap := (env j).2 - lo) hheap (c := c) hflat hnews (flat_one U ys) (by omega) (by rw [hflat, hsz]; omega)
    have heq : off + lo * U.sz + n * ni.size = off + (lo + n) * U.sz := by rw [hsz, Nat.add_mul]; omega
    rw [heq] at hrun
    obtain ⟨g1, g2, g3⟩ := hgood _ rfl
    refine ⟨_, _, hrun, g1, g2, g3, ?_⟩
    simp only [conc, conc2, concC, updH_one, if_true]
    exact ⟨by rw [hlen]; omega, _, rfl, .inr (by rw [hb]; simp [add_addr])⟩

theorem flat_replicate {U : Ty} {z0 : U.El} {zc : Array Value} (h : zc.toList = (U.enc z0).map svl) : ∀ n, (Builtin.zeroCells zc n).toList = flat U (List.replicate n z0) := by
  intro n
  have hs : zc.size = U.sz := by
    have := congrArg List.length h
    simpa [enc_length] using this
  apply List.ext_getElem?
  intro q
  have pos := sz_pos U
  by_cases hq : q < n * U.sz
  · have h1 : q / U.sz < n := by rw [Nat.div_lt_iff_lt_mul pos]; exact hq
    have h2 : q % U.sz < U.sz := Nat.mod_lt _ pos
    have h3 : q / U.sz * U.sz + q % U.sz = q := by rw [Nat.mul_comm]; exact Nat.div_add_mod q U.sz
    have h4 := flat_at U (List.replicate n z0) (q / U.sz) (q % U.sz) (by simpa using h1) h2
    rw [h3] at h4
    rw [h4]
    have hix : U.ix (List.replicate n z0) (q / U.sz) = z0 := by simp [Ty.ix, List.getD, h1]
    rw [hix]
    have h5 : q % U.sz < zc.size := by rw [hs]; exact h2
    have h6 : zc.toList[q % U.sz]? = some zc[q % U.sz] := by simp [h5]
    rw [h, List.getElem?_map] at h6
    have h7 : q % U.sz < (U.enc z0).length := by rw [enc_length]; exact h2
    rw [List.getElem?_eq_getElem h7] at h6
    simp only [Option.map_some, Option.some.injEq] at h6
    unfold Builtin.zeroCells
    rw [Array.getElem?_toList, Array.getElem?_map, hs, Array.getElem?_eq_getElem (by simpa using hq)]
    simp only [Array.getElem_range, Option.map_some]
    rw [getElem!_pos zc (q % U.sz) h5, ← h6]
    simp [List.getD, h7]
  · rw [List.getElem?_eq_none, List.getElem?_eq_none]
    · rw [flat_length]; simpa using hq
    · unfold Builtin.zeroCells
      simp [hs]; omega

theorem concL_cons {s : SV} {r : List SV} {vs : List Value} (h : concL env H (s :: r) vs) : ∃ v t, vs = v :: t ∧ conc env H s v ∧ concL env H r t := by
  cases vs with
  | nil => exact h.elim
  | cons v t => exact ⟨v, t, rfl, h.1, h.2⟩
theorem concL_nil {vs : List Value} (h : concL env H [] vs) : vs = [] := by
  cases vs with
  | nil => rfl
  | cons _ _ => exact h.elim

theorem clr_ok (hh : HRel wr env H w) {tt : Types} (ht : TabOk P tt) {ts : List Nat} {ss : List SV} {vs : List Value} (hc : concL env H ss vs)
    (h : (clr tt ts ss).run T H = some δ) (ty : Nat) (cs : Array Bool) :
    ∃ v w', (builtin .clear ts.toArray ty cs vs.toArray).run P w = .ok (.value v) w' ∧ ∃ env', Ext env H env' (updH H δ.hs) ∧ HRel wr env' (updH H δ.hs) w' ∧ Fr wr w w' ∧ conc env' (updH H δ.hs) δ.v v := by
  unfold clr at h
  split at h
  case h_2 => simp [RM.run] at h
  rename_i t0 tr j lo n
  obtain ⟨v1, t, rfl, hv1, hr⟩ := concL_cons hc
  cases concL_nil hr
  obtain ⟨i, hi, q⟩ := tiOf_inv h
  clear h
  obtain ⟨e, he, h⟩ := tiOf_inv q
  clear q
  split at h
  case h_2 => simp [RM.run] at h
  rename_i U hU
  split at h
  case h_2 => simp [RM.run] at h
  rename_i z0 hz0
  simp only [RM.run] at h
  split at h
  case h_2 => simp [RM.run] at h
  rename_i V xs0 hj
  split at h
  case h_2 => simp [RM.run] at h
  rename_i xs hx
  obtain ⟨ev, hx⟩ := castTo_inv hx
  subst ev
  subst hx
  simp only [RM.run, Option.some.injEq] at h
  subst h
  obtain ⟨hu, ni, hin, hsz⟩ := typeOk_slice (ht _ _ hi) hU
  obtain ⟨n', u', hin', hu', hsz', hby, hzl, z, hz, hzf, _⟩ := typeOk_some (ht _ _ he)
  rw [hin] at hin'
  cases hin'
  have hzc := zero_conc (env := env) (H := H) hzf
  have henc := dec_enc hz0
  have hv := plain_vals (fun c hc => enc_plain V z0 c (by rw [henc]; exact hc)) hzc
  rw [← henc] at hv
  have hvc : concC env H (.sl j lo n) v1 := hv1
  simp only [concC, hj] at hvc
  obtain ⟨h1, x, rfl, h2⟩ := hvc
  by_cases h0 : n = 0
  · subst h0
    simp only [List.replicate_zero]
    rw [spl_nil, updH_same hj]
    refine ⟨.tuple #[], w, ?_, env, .refl _ _, hh, .refl _ _, ⟨#[], rfl, trivial⟩⟩
    cases x <;> simp [builtin, Builtin.clear_, run_underlying hu]
  · have hle : lo + (List.replicate n z0).length ≤ xs0.length := by simpa using h1
    obtain ⟨b, off, E, vs, hb, hheap, hsize, hcap, hgood⟩ := splice_good hh hj hle (by simp; omega)
    rcases h2 with h2 | h2
    · omega
    rw [hb] at h2
    simp only [Option.map_some, add_addr] at h2
    subst h2
    obtain ⟨g1, g2, g3⟩ := hgood _ rfl
    refine ⟨.tuple #[], _, ?_, env, g1, g2, g3, ⟨#[], rfl, trivial⟩⟩
    have hfl := flat_replicate hv n
    have hfy := flat_length V (List.replicate n z0)
    simp only [List.length_replicate] at hfy
    have hm : (lo + n) * V.sz ≤ (env j).2 * V.sz := Nat.mul_le_mul_right _ (by omega)
    rw [Nat.add_mul] at hm
    have hst := run_storeCells_at P b (off + lo * V.sz) E (Builtin.zeroCells z.cells n).toList 0 vs w hheap (by rw [hfl, hfy]; omega) (by rw [hfl]; exact flat_one V _)
    rw [hfl] at hst
    simp only [Nat.add_zero] at hst
    have hzv : (zeroValue i.elem).run P w = .ok z w := by simp [zeroValue, typeInfo, hin, hz]
    have hn0 : ∃ m, n = m + 1 := ⟨n - 1, by omega⟩
    obtain ⟨m, rfl⟩ := hn0
    simp [builtin, Builtin.clear_, run_underlying hu, hzv, hfl, hst]

theorem maxs_ok {k : IntKind} : ∀ {r : List SV} {vs : List Value} {x n : Int}, concL env H r vs → maxs k x r = some n → (vs.foldlM Builtin.max2 (.int k x)).run P w = .ok (.int k n) w
  | [], vs, x, n, h, hm => by
    rw [concL_nil h]
    simp only [maxs, Option.some.injEq] at hm
    subst hm
    rfl
  | s :: r, vs, x, n, h, hm => by
    obtain ⟨v, t, rfl, hv, ht⟩ := concL_cons h
    cases s <;> simp only [maxs, reduceCtorEq] at hm
    split at hm
    case h_2 => cases hm
    have := conc_int hv
    subst this
    simp only [List.foldlM_cons, Sem.run_bind, Builtin.max2, Sem.run_pure, Result.andThen_ok]
    exact maxs_ok ht hm

theorem mins_ok {k : IntKind} : ∀ {r : List SV} {vs : List Value} {x n : Int}, concL env H r vs → mins k x r = some n → (vs.foldlM Builtin.min2 (.int k x)).run P w = .ok (.int k n) w
  | [], vs, x, n, h, hm => by
    rw [concL_nil h]
    simp only [mins, Option.some.injEq] at hm
    subst hm
    rfl
  | s :: r, vs, x, n, h, hm => by
    obtain ⟨v, t, rfl, hv, ht⟩ := concL_cons h
    cases s <;> simp only [mins, reduceCtorEq] at hm
    split at hm
    case h_2 => cases hm
    have := conc_int hv
    subst this
    simp only [List.foldlM_cons, Sem.run_bind, Builtin.min2, Sem.run_pure, Result.andThen_ok]
    exact mins_ok ht hm

theorem lenOf_inv {α : Type} {v : SV} {u : Value} {k : Nat → RM α} {r : α} (h : (lenOf v k).run T H = some r) (hc : conc env H v u) : ∃ n x c, (k n).run T H = some r ∧ u = .slice x n c := by
  unfold lenOf at h
  split at h
  · rename_i j
    simp only [RM.run] at h
    split at h
    case h_2 => simp [RM.run] at h
    rename_i rw V xs hj
    simp only [conc, conc2, concC, hj] at hc
    exact ⟨_, _, _, h, hc⟩
  · rename_i j lo n
    obtain ⟨h, ha⟩ := alive_inv h
    rcases ha with ⟨r', cs, ha⟩ | ⟨r', V, xs, ha⟩
    · simp only [conc, conc2, concC, ha] at hc
    · simp only [conc, conc2, concC, ha] at hc
      obtain ⟨_, x, hc, _⟩ := hc
      exact ⟨_, _, _, h, hc⟩
  · obtain ⟨x, hc⟩ := hc
    exact ⟨_, _, _, h, hc⟩
  · simp [RM.run] at h

theorem run_builtin_value {s : Sem Value} {v : Value} (h : s.run P w = .ok v w') : (do pure (.value (← s)) : Sem Next).run P w = .ok (.value v) w' := by simp [h]

theorem blt_ok (hh : HRel wr env H w) (hnew : ∀ k, w.heap.size ≤ k → wr k) {tt : Types} (ht : TabOk P tt) {d : Nat} {b : Builtin} {ts : List Nat} {ss : List SV} {vs : List Value} (hc : concL env H ss vs)
    (h : (blt tt d b ts ss).run T H = some δ) (hp : ∀ p, δ.ok = some p → p) (ty : Nat) (cs : Array Bool) :
    ∃ v w', (builtin b ts.toArray ty cs vs.toArray).run P w = .ok (.value v) w' ∧ ∃ env', Ext env H env' (updH H δ.hs) ∧ HRel wr env' (updH H δ.hs) w' ∧ Fr wr w w' ∧ conc env' (updH H δ.hs) δ.v v := by
  have pure' : ∀ {s : SV} {v : Value} {p : Option Prop}, conc env H s v → Ext env H env (updH H (Delta.mk p s []).hs) ∧ HRel wr env (updH H (Delta.mk p s []).hs) w ∧ Fr wr w w ∧ conc env (updH H (Delta.mk p s []).hs) (Delta.mk p s []).v v := by
    intro s v p hc
    rw [updH_nil]
    exact ⟨.refl _ _, hh, .refl _ _, hc⟩
  unfold blt at h
  split at h
  · rename_i s
    obtain ⟨v, t, rfl, hv, hr⟩ := concL_cons hc
    rw [concL_nil hr]
    cases ts with
    | nil => simp [RM.run] at h
    | cons t0 tr =>
    obtain ⟨i, hi, q⟩ := tiOf_inv h
    clear h
    split at q
    case h_2 => simp [RM.run] at q
    rename_i U hU
    obtain ⟨hu, _⟩ := typeOk_slice (ht _ _ hi) hU
    obtain ⟨n, x, c, q, rfl⟩ := lenOf_inv q hv
    simp only [ret1, RM.run, Option.some.injEq] at q
    subst q
    refine ⟨.int .i64 n, w, ?_, env, pure' rfl⟩
    simp [builtin, Builtin.len_, run_underlying hu, goInt]
  · rename_i k x r
    obtain ⟨v, t, rfl, hv, hr⟩ := concL_cons hc
    have := conc_int hv
    subst this
    split at h
    case h_2 => simp [RM.run] at h
    rename_i n hm
    simp only [ret1, RM.run, Option.some.injEq] at h
    subst h
    refine ⟨.int k n, w, ?_, env, pure' rfl⟩
    simp only [builtin, Builtin.max_]
    exact run_builtin_value (maxs_ok hr hm)
  · rename_i k x r
    obtain ⟨v, t, rfl, hv, hr⟩ := concL_cons hc
    have := conc_int hv
    subst this
    split at h
    case h_2 => simp [RM.run] at h
    rename_i n hm
    simp only [ret1, RM.run, Option.some.injEq] at h
    subst h
    refine ⟨.int k n, w, ?_, env, pure' rfl⟩
    simp only [builtin, Builtin.min_]
    exact run_builtin_value (mins_ok hr hm)
  · rename_i s1 s2
    obtain ⟨v1, t, rfl, hv1, hr⟩ := concL_cons hc
    obtain ⟨v2, t2, rfl, hv2, hr⟩ := concL_cons hr
    rw [concL_nil hr]
    obtain ⟨i, hi, q⟩ := tiOf_inv h
    clear h
    obtain ⟨e, he, h⟩ := tiOf_inv q
    clear q
    split at h
    case h_2 => simp [RM.run] at h
    rename_i U hU
    split at hU
    case h_2 => cases hU
    rename_i t0 t1
    split at hU
    case h_2 => cases hU
    rename_i htt
    have htt := Nat.eq_of_beq_eq_true htt
    subst htt
    simp only [List.headD_cons] at hi
    obtain ⟨hu, n', hin', hsz'⟩ := typeOk_slice (ht _ _ hi) hU
    obtain ⟨ni, u', hin, hu', hszi, hby, hzl, z, hz, hzf, _⟩ := typeOk_some (ht _ _ he)
    rw [hin'] at hin
    cases hin
    have hzs := zero_size hzf
    simp only [Array.length_toList] at hzs
    have hzs' : z.cells.size = U.sz := by omega
    obtain ⟨hb0, h⟩ := roomy_inv h
    rw [← hby] at hb0
    obtain ⟨ys, h, hsrc⟩ := elems_inv hh h hv2
    split at h
    · obtain ⟨x, hv1⟩ := hv1
      subst hv1
      obtain ⟨hn, h⟩ := fresh_inv h
      simp only [RM.run, Option.some.injEq] at h
      subst h
      have hr := hp _ rfl
      rw [← hby] at hr
      obtain ⟨v, w', hrun, env', r1, r2, r3, r4⟩ := append_nil_good hh hnew (ty := ty) hu hin' hsz' hz hzs' hn (x := x) hsrc hb0 hr
      exact ⟨v, w', by simp only [builtin]; exact run_builtin_value hrun, env', r1, r2, r3, r4⟩
    · rename_i j
      simp only [RM.run] at h
      split at h
      case h_2 => simp [RM.run] at h
      rename_i V xs hj
      split at h
      case h_2 => simp [RM.run] at h
      rename_i xs' hx
      obtain ⟨ev, hx⟩ := castTo_inv hx
      subst ev
      subst hx
      obtain ⟨hn, h⟩ := fresh_inv h
      simp only [RM.run, Option.some.injEq] at h
      subst h
      have hr := hp _ rfl
      rw [← hby] at hr
      simp only [conc, conc2, concC, hj] at hv1
      subst hv1
      obtain ⟨v, w', hrun, env', r1, r2, r3, r4⟩ := append_good hh hnew (ty := ty) hu hin' hsz' hz hzs' hj hn hsrc hb0 hr
      exact ⟨v, w', by simp only [builtin]; exact run_builtin_value hrun, env', r1, r2, r3, r4⟩
    · rename_i j lo n
      simp only [RM.run] at h
      split at h
      case h_2 => simp [RM.run] at h
      rename_i V xs hj
      split at h
      case h_2 => simp [RM.run] at h
      rename_i xs' hx
      obtain ⟨ev, hx⟩ := castTo_inv hx
      subst ev
      subst hx
      simp only [RM.run, Option.some.injEq] at h
      subst h
      have hle := hp _ rfl
      obtain ⟨v, w', hrun, r1, r2, r3, r4⟩ := append_part_good hh (ty := ty) hu hin' hsz' hj hv1 hsrc hle
      exact ⟨v, w', by simp only [builtin]; exact run_builtin_value hrun, env, r1, r2, r3, r4⟩
    · simp [RM.run] at h
  · simp [RM.run] at h

end

end Go.Proofs.YtdhbkcaaijgocaaGreat.Sym

namespace Go.Proofs.YtdhbkcaaijgocaaGreat.Sym
open Go
set_option linter.unusedVariables false
set_option linter.unusedSimpArgs false

def envOf (E : List (Option Addr × Nat)) : Env := fun k => E.getD k (none, 0)
def ofL (L : List Ent) : Hp := fun k => L[k]?

section
variable {P : Program} {wr : Nat → Prop} {env env' : Env} {H H' : Hp} {a : Act} {w w' : World} {T : Nat → SV} {δ : Delta}

theorem blkRel_ext (x : Ext env H env' H') {j : Nat} {rw : Bool} {b : Blk} (he : env' j = env j) (h : blkRel env H j rw b w) : blkRel env' H' j rw b w := by
  cases b with
  | box cs =>
    obtain ⟨b, E, vs, fz, hb, hheap, hc, hf⟩ := h
    exact ⟨b, E, vs, fz, by rw [he]; exact hb, hheap, concCs_ext x hc, hf⟩
  | vec U xs =>
    simp only [blkRel, he]
    exact h
  | dead => trivial

/-- Of one name that is lent. -/
def LentOne (env : Env) (H : Hp) (s : Src) (e : Ent) (x : Option Addr × Nat) : Prop :=
  match s with
  | .nil => ∃ U, e = (false, .vec U []) ∧ x.2 = 0
  | .whole j => x = env j ∧ ((∃ rw U xs, H j = some (rw, .vec U xs) ∧ e.2 = .vec U xs ∧ (e.1 = true → rw = true)) ∨ ∃ rw cs cs', H j = some (rw, .box cs) ∧ e = (rw, .box cs'))
  | .part j lo n => ∃ rw U xs, H j = some (rw, .vec U xs) ∧ e = (false, .vec U ((xs.drop lo).take n)) ∧ lo + n ≤ xs.length ∧ x.2 = (env j).2 - lo ∧ ((env j).2 = lo ∨ x.1 = (env j).1.map (·.add (lo * U.sz)))

structure Lent (env : Env) (H : Hp) (w : World) (β : List Src) (L : List Ent) (E : List (Option Addr × Nat)) : Prop where
  l1 : L.length = β.length
  l2 : E.length = β.length
  one : ∀ (k : Nat) s e x, β[k]? = some s → L[k]? = some e → E[k]? = some x → LentOne env H s e x
  blk : ∀ (k : Nat) r b, L[k]? = some (r, b) → blkRel (envOf E) (ofL L) k r b w

theorem Lent.nil : Lent env H w [] [] [] := ⟨rfl, rfl, fun k s e x h => by simp at h, fun k r b h => by simp at h⟩

theorem ext_append (E E2 : List (Option Addr × Nat)) (L L2 : List Ent) (h : E.length = L.length) : Ext (envOf E) (ofL L) (envOf (E ++ E2)) (ofL (L ++ L2)) := ⟨fun j r b hj => by
  have hlt : j < L.length := (List.getElem?_eq_some_iff.1 hj).1
  refine ⟨?_, r, b, ?_, stays_refl b⟩
  · simp [envOf, List.getD, List.getElem?_append_left (show j < E.length by omega)]
  · simp only [ofL] at hj ⊢
    rw [List.getElem?_append_left hlt]
    exact hj⟩

theorem Lent.push {β : List Src} {L : List Ent} {E : List (Option Addr × Nat)} (h : Lent env H w β L E) {s : Src} {r : Bool} {b : Blk} {x : Option Addr × Nat} (h1 : LentOne env H s (r, b) x)
    (h2 : blkRel (envOf (E ++ [x])) (ofL (L ++ [(r, b)])) L.length r b w) : Lent env H w (β ++ [s]) (L ++ [(r, b)]) (E ++ [x]) := by
  have e1 := h.l1
  have e2 := h.l2
  have ex := ext_append E [x] L [(r, b)] (by omega)
  refine ⟨by simp [e1], by simp [e2], ?_, ?_⟩
  · intro k s' e' x' hs he hx
    rcases Nat.lt_trichotomy k β.length with hk | hk | hk
    · rw [List.getElem?_append_left hk] at hs
      rw [List.getElem?_append_left (by omega)] at he hx
      exact h.one k s' e' x' hs he hx
    · subst hk
      rw [List.getElem?_append_right (Nat.le_refl _)] at hs
      rw [List.getElem?_append_right (by omega)] at he hx
      simp only [Nat.sub_self, List.getElem?_cons_zero, Option.some.injEq, e1, e2] at hs he hx
      subst hs; subst he; subst hx
      exact h1
    · rw [List.getElem?_eq_none (by simp; omega)] at hs
      cases hs
  · intro k r' b' hk
    rcases Nat.lt_trichotomy k L.length with hlt | hlt | hlt
    · rw [List.getElem?_append_left hlt] at hk
      exact blkRel_ext ex (by simp [envOf, List.getD, List.getElem?_append_left (show k < E.length by omega)]) (h.blk k r' b' hk)
    · subst hlt
      rw [List.getElem?_append_right (Nat.le_refl _)] at hk
      simp only [Nat.sub_self, List.getElem?_cons_zero, Option.some.injEq, Prod.mk.injEq] at hk
      obtain ⟨rfl, rfl⟩ := hk
      exact h2
    · rw [List.getElem?_eq_none (by simp; omega)] at hk
      cases hk

/-- The lists have grown. -/
def Grow (β : List Src) (L : List Ent) (E : List (Option Addr × Nat)) (β' : List Src) (L' : List Ent) (E' : List (Option Addr × Nat)) : Prop :=
  ∃ b l e, β' = β ++ b ∧ L' = L ++ l ∧ E' = E ++ e

theorem Grow.refl (β : List Src) (L : List Ent) (E : List (Option Addr × Nat)) : Grow β L E β L E := ⟨[], [], [], by simp, by simp, by simp⟩
theorem Grow.trans {β β' β'' : List Src} {L L' L'' : List Ent} {E E' E'' : List (Option Addr × Nat)} (h : Grow β L E β' L' E') (k : Grow β' L' E' β'' L'' E'') : Grow β L E β'' L'' E'' := by
  obtain ⟨b, l, e, rfl, rfl, rfl⟩ := h
  obtain ⟨b', l', e', rfl, rfl, rfl⟩ := k
  exact ⟨b ++ b', l ++ l', e ++ e', by simp, by simp, by simp⟩
theorem Grow.ext {β β' : List Src} {L L' : List Ent} {E E' : List (Option Addr × Nat)} (h : Grow β L E β' L' E') (hl : E.length = L.length) : Ext (envOf E) (ofL L) (envOf E') (ofL L') := by
  obtain ⟨b, l, e, rfl, rfl, rfl⟩ := h
  exact ext_append _ _ _ _ hl

theorem envOf_last (E : List (Option Addr × Nat)) (x : Option Addr × Nat) : envOf (E ++ [x]) E.length = x := by simp [envOf, List.getD]
theorem ofL_last (L : List Ent) (e : Ent) : ofL (L ++ [e]) L.length = some e := by simp [ofL]

theorem lend0_inv {α : Type} (hh : HRel wr env H w) {wt : Bool} {ct : Option Ty} {c : SV} {β : List Src} {L : List Ent} {E : List (Option Addr × Nat)} {k : SV → List Src → List Ent → RM α} {r : α}
    (h : (lend0 wt ct c β L k).run T H = some r) (hl : Lent env H w β L E) {v : Value} (hc : concC env H c v) :
    ∃ s β' L' E', (k s β' L').run T H = some r ∧ Lent env H w β' L' E' ∧ Grow β L E β' L' E' ∧ concC (envOf E') (ofL L') s v := by
  have hlen : L.length = E.length := by rw [hl.l1, hl.l2]
  unfold lend0 at h
  split at h
  · exact ⟨_, _, _, E, h, hl, .refl _ _ _, hc⟩
  · exact ⟨_, _, _, E, h, hl, .refl _ _ _, hc⟩
  · exact ⟨_, _, _, E, h, hl, .refl _ _ _, hc⟩
  · exact ⟨_, _, _, E, h, hl, .refl _ _ _, hc⟩
  · rename_i j
    simp only [RM.run] at h
    split at h
    case h_2 => simp [RM.run] at h
    rename_i rw U xs hj
    have key : ∀ rw', (rw' = true → rw = true) → Lent env H w (β ++ [.whole j]) (L ++ [(rw', .vec U xs)]) (E ++ [env j]) ∧ concC (envOf (E ++ [env j])) (ofL (L ++ [(rw', .vec U xs)])) (.vec L.length) v := by
      intro rw' hrw
      refine ⟨hl.push ⟨rfl, .inl ⟨rw, U, xs, hj, rfl, hrw⟩⟩ ?_, ?_⟩
      · have := hh.blk j rw _ hj
        simp only [blkRel] at this ⊢
        rw [hlen, envOf_last]
        obtain ⟨h1, h2⟩ := this
        refine ⟨h1, h2.imp id ?_⟩
        rintro ⟨b, off, E', vs, fz, a1, a2, a3, a4, a5⟩
        exact ⟨b, off, E', vs, fz, a1, a2, a3, a4, fun q => a5 (hrw q)⟩
      · simp only [concC, hj] at hc ⊢
        rw [ofL_last]
        simp only
        rw [hlen, envOf_last]
        exact hc
    split at h
    · obtain ⟨k1, k2⟩ := key true (fun _ => rfl)
      exact ⟨_, _, _, _, h, k1, ⟨_, _, _, rfl, rfl, rfl⟩, k2⟩
    · simp [RM.run] at h
    · obtain ⟨k1, k2⟩ := key false (fun q => by cases q)
      exact ⟨_, _, _, _, h, k1, ⟨_, _, _, rfl, rfl, rfl⟩, k2⟩
  · rename_i j lo n
    simp only [RM.run] at h
    split at h
    case h_2 => simp [RM.run] at h
    rename_i rw U xs hj
    split at h
    · simp [RM.run] at h
    · simp only [concC, hj] at hc
      obtain ⟨hlo, y, rfl, hy⟩ := hc
      have hlen2 : ((xs.drop lo).take n).length = n := by simp; omega
      refine ⟨_, _, _, E ++ [(y, (env j).2 - lo)], h, hl.push ⟨rw, U, xs, hj, rfl, hlo, rfl, hy⟩ ?_, ⟨_, _, _, rfl, rfl, rfl⟩, ?_⟩
      · simp only [blkRel]
        rw [hlen, envOf_last, hlen2]
        obtain ⟨h1, h2⟩ := hh.blk j rw _ hj
        refine ⟨by simp only; omega, ?_⟩
        rcases h2 with h2 | ⟨b, off, E', vs, fz, a1, a2, a3, a4, a5⟩
        · left; simp only; omega
        · rcases hy with hy | hy
          · left; simp only; omega
          · right
            rw [a1] at hy
            simp only [Option.map_some, add_addr] at hy
            refine ⟨b, off + lo * U.sz, E', vs, fz, hy, a2, ?_, ?_, fun q => by cases q⟩
            · have : (env j).2 * U.sz = lo * U.sz + ((env j).2 - lo) * U.sz := by rw [← Nat.add_mul]; congr 1; omega
              simp only
              omega
            · intro e he o ho
              rw [hlen2] at he
              have h1 := a4 (lo + e) (by omega) o ho
              have hix : U.ix ((xs.drop lo).take n) e = U.ix xs (lo + e) := by simp [Ty.ix, List.getD, List.getElem?_take, he]
              rw [hix, ← h1]
              congr 1
              rw [Nat.add_mul]
              omega
      · simp only [concC]
        rw [ofL_last]
        simp only
        rw [hlen, envOf_last, hlen2]
  · split at h
    case h_2 => simp [RM.run] at h
    rename_i U
    obtain ⟨y, rfl⟩ := hc
    refine ⟨_, _, _, E ++ [(y, 0)], h, hl.push ⟨U, rfl, rfl⟩ ?_, ⟨_, _, _, rfl, rfl, rfl⟩, ?_⟩
    · simp only [blkRel]
      rw [hlen, envOf_last]
      exact ⟨Nat.le_refl _, .inl rfl⟩
    · simp only [concC]
      rw [ofL_last]
      simp only
      rw [hlen, envOf_last]
      rfl
  · simp [RM.run] at h

theorem lend0s_inv {α : Type} (hh : HRel wr env H w) : ∀ {cs : List SV} {β : List Src} {L : List Ent} {E : List (Option Addr × Nat)} {k : List SV → List Src → List Ent → RM α} {r : α} {vs : List Value},
    (lend0s cs β L k).run T H = some r → Lent env H w β L E → concCs env H cs vs →
    ∃ ss β' L' E', (k ss β' L').run T H = some r ∧ Lent env H w β' L' E' ∧ Grow β L E β' L' E' ∧ concCs (envOf E') (ofL L') ss vs
  | [], β, L, E, k, r, [], h, hl, _ => ⟨[], β, L, E, h, hl, .refl _ _ _, trivial⟩
  | c :: cs, β, L, E, k, r, v :: vs, h, hl, hc => by
    simp only [lend0s] at h
    obtain ⟨s, β1, L1, E1, h, hl1, g1, c1⟩ := lend0_inv hh h hl hc.1
    obtain ⟨ss, β2, L2, E2, h, hl2, g2, c2⟩ := lend0s_inv hh h hl1 hc.2
    exact ⟨s :: ss, β2, L2, E2, h, hl2, g1.trans g2, concC_ext (g2.ext (by rw [hl1.l1, hl1.l2])) c1, c2⟩

theorem posOf_inv {j : Nat} : ∀ {β : List Src} {k i : Nat}, posOf j β k = some i → ∃ m, i = k + m ∧ β[m]? = some (.whole j)
  | [], k, i, h => by simp [posOf] at h
  | .whole x :: r, k, i, h => by
    simp only [posOf] at h
    split at h
    · rename_i hb
      have := Nat.eq_of_beq_eq_true hb
      subst this
      cases h
      exact ⟨0, rfl, rfl⟩
    · obtain ⟨m, h1, h2⟩ := posOf_inv h
      exact ⟨m + 1, by omega, by simpa using h2⟩
  | .nil :: r, k, i, h => by
    simp only [posOf] at h
    obtain ⟨m, h1, h2⟩ := posOf_inv h
    exact ⟨m + 1, by omega, by simpa using h2⟩
  | .part _ _ _ :: r, k, i, h => by
    simp only [posOf] at h
    obtain ⟨m, h1, h2⟩ := posOf_inv h
    exact ⟨m + 1, by omega, by simpa using h2⟩

/-- A lent block under its canonical name: as its own. -/
def SameBlk (env : Env) (H : Hp) (j : Nat) (envc : Env) (Hc : Hp) (i : Nat) : Prop :=
  envc i = env j ∧ ((∃ rw U xs rw', H j = some (rw, .vec U xs) ∧ Hc i = some (rw', .vec U xs)) ∨ ∃ rw cs rw' cs', H j = some (rw, .box cs) ∧ Hc i = some (rw', .box cs'))

theorem lendB_inv {α : Type} (hh : HRel wr env H w) {j : Nat} {β : List Src} {L : List Ent} {E : List (Option Addr × Nat)} {k : Nat → List Src → List Ent → RM α} {r : α}
    (h : (lendB j β L k).run T H = some r) (hl : Lent env H w β L E) :
    ∃ i β' L' E', (k i β' L').run T H = some r ∧ Lent env H w β' L' E' ∧ Grow β L E β' L' E' ∧ SameBlk env H j (envOf E') (ofL L') i := by
  have hlen : L.length = E.length := by rw [hl.l1, hl.l2]
  unfold lendB at h
  split at h
  · rename_i i hi
    obtain ⟨m, rfl, hm⟩ := posOf_inv hi
    rw [Nat.zero_add] at h
    have hlt : m < β.length := (List.getElem?_eq_some_iff.1 hm).1
    obtain ⟨e, he⟩ : ∃ e, L[m]? = some e := ⟨L[m]'(by rw [hl.l1]; exact hlt), List.getElem?_eq_getElem _⟩
    obtain ⟨x, hx⟩ : ∃ x, E[m]? = some x := ⟨E[m]'(by rw [hl.l2]; exact hlt), List.getElem?_eq_getElem _⟩
    have ho := hl.one m _ e x hm he hx
    refine ⟨_, β, L, E, h, hl, .refl _ _ _, ?_, ?_⟩
    · simp only [envOf, List.getD, hx, Option.getD_some]
      exact ho.1
    · obtain ⟨_, ho⟩ := ho
      obtain ⟨e1, e2⟩ := e
      rcases ho with ⟨rw, U, xs, h1, h2, _⟩ | ⟨rw, cs, cs', h1, h2⟩
      · simp only at h2
        exact .inl ⟨rw, U, xs, e1, h1, by simp [ofL, he, h2]⟩
      · cases h2
        exact .inr ⟨e1, cs, e1, cs', h1, by simp [ofL, he]⟩
  · simp only [RM.run] at h
    split at h
    · rename_i rw cs hj
      obtain ⟨b, E0, vs, fz, hb, hheap, hcs, hf⟩ := hh.blk j rw _ hj
      obtain ⟨ss, β1, L1, E1, h, hl1, g1, c1⟩ := lend0s_inv hh h hl hcs
      have hlen1 : L1.length = E1.length := by rw [hl1.l1, hl1.l2]
      refine ⟨_, _, _, E1 ++ [env j], h, hl1.push ⟨rfl, .inr ⟨rw, cs, ss, hj, rfl⟩⟩ ?_, g1.trans ⟨_, _, _, rfl, rfl, rfl⟩, ?_, ?_⟩
      · refine ⟨b, E0, vs, fz, by rw [hlen1, envOf_last]; exact hb, hheap, concCs_ext (ext_append _ _ _ _ hlen1.symm) c1, hf⟩
      · rw [hlen1, envOf_last]
      · exact .inr ⟨rw, cs, rw, ss, hj, by rw [ofL_last]⟩
    · rename_i rw U xs hj
      refine ⟨_, _, _, E ++ [env j], h, hl.push ⟨rfl, .inl ⟨rw, U, xs, hj, rfl, id⟩⟩ ?_, ⟨_, _, _, rfl, rfl, rfl⟩, ?_, ?_⟩
      · have := hh.blk j rw _ hj
        simp only [blkRel] at this ⊢
        rw [hlen, envOf_last]
        exact this
      · rw [hlen, envOf_last]
      · exact .inl ⟨rw, U, xs, rw, hj, by rw [ofL_last]⟩
    · simp [RM.run] at h

theorem SameBlk.ext {j i : Nat} {envc envc' : Env} {Hc Hc' : Hp} (x : Ext envc Hc envc' Hc') (hs : ∀ k e, Hc k = some e → Hc' k = some e) (h : SameBlk env H j envc Hc i) : SameBlk env H j envc' Hc' i := by
  obtain ⟨h1, h2⟩ := h
  rcases h2 with ⟨rw, U, xs, rw', a, b⟩ | ⟨rw, cs, rw', cs', a, b⟩
  · exact ⟨((x.same i _ _ b).1).trans h1, .inl ⟨rw, U, xs, rw', a, hs _ _ b⟩⟩
  · exact ⟨((x.same i _ _ b).1).trans h1, .inr ⟨rw, cs, rw', cs', a, hs _ _ b⟩⟩

theorem conc_same_ptr {j i e o : Nat} {envc : Env} {Hc : Hp} (h : SameBlk env H j envc Hc i) {v : Value} (hc : concC env H (.ptr j e o) v) : concC envc Hc (.ptr i e o) v := by
  obtain ⟨h1, ⟨rw, U, xs, rw', a, b⟩ | ⟨rw, cs, rw', cs', a, b⟩⟩ := h
  · simp only [concC, a, b, h1] at hc ⊢
    exact hc
  · simp only [concC, a, b, h1] at hc ⊢
    exact hc

theorem conc_same_fn {j i f : Nat} {envc : Env} {Hc : Hp} (h : SameBlk env H j envc Hc i) {v : Value} (hc : concC env H (.fn f (some j)) v) : concC envc Hc (.fn f (some i)) v := by
  obtain ⟨h1, ⟨rw, U, xs, rw', a, b⟩ | ⟨rw, cs, rw', cs', a, b⟩⟩ := h
  · simp only [concC, a] at hc
  · simp only [concC, a, b, h1] at hc ⊢
    exact hc

theorem lend1_inv {α : Type} (hh : HRel wr env H w) {wt : Bool} {ct : Option Ty} {c : SV} {β : List Src} {L : List Ent} {E : List (Option Addr × Nat)} {k : SV → List Src → List Ent → RM α} {r : α}
    (h : (lend1 wt ct c β L k).run T H = some r) (hl : Lent env H w β L E) {v : Value} (hc : concC env H c v) :
    ∃ s β' L' E', (k s β' L').run T H = some r ∧ Lent env H w β' L' E' ∧ Grow β L E β' L' E' ∧ concC (envOf E') (ofL L') s v := by
  unfold lend1 at h
  split at h
  · obtain ⟨i, β', L', E', h, hl', g, hs⟩ := lendB_inv hh h hl
    exact ⟨_, _, _, E', h, hl', g, conc_same_ptr hs hc⟩
  · obtain ⟨i, β', L', E', h, hl', g, hs⟩ := lendB_inv hh h hl
    exact ⟨_, _, _, E', h, hl', g, conc_same_fn hs hc⟩
  · exact lend0_inv hh h hl hc

theorem lendCells_inv {α : Type} (hh : HRel wr env H w) {wt : Bool} : ∀ {cs : List SV} {cts : List (Option Ty)} {β : List Src} {L : List Ent} {E : List (Option Addr × Nat)} {k : List SV → List Src → List Ent → RM α} {r : α} {vs : List Value},
    (lendCells wt cts cs β L k).run T H = some r → Lent env H w β L E → concCs env H cs vs →
    ∃ ss β' L' E', (k ss β' L').run T H = some r ∧ Lent env H w β' L' E' ∧ Grow β L E β' L' E' ∧ concCs (envOf E') (ofL L') ss vs
  | [], cts, β, L, E, k, r, [], h, hl, _ => ⟨[], β, L, E, h, hl, .refl _ _ _, trivial⟩
  | c :: cs, cts, β, L, E, k, r, v :: vs, h, hl, hc => by
    simp only [lendCells] at h
    obtain ⟨s, β1, L1, E1, h, hl1, g1, c1⟩ := lend1_inv hh h hl hc.1
    obtain ⟨ss, β2, L2, E2, h, hl2, g2, c2⟩ := lendCells_inv hh h hl1 hc.2
    exact ⟨s :: ss, β2, L2, E2, h, hl2, g1.trans g2, concC_ext (g2.ext (by rw [hl1.l1, hl1.l2])) c1, c2⟩

theorem lendArg_inv {α : Type} (hh : HRel wr env H w) {wt : Bool} {cts : List (Option Ty)} {c : SV} {β : List Src} {L : List Ent} {E : List (Option Addr × Nat)} {k : SV → List Src → List Ent → RM α} {r : α}
    (h : (lendArg wt cts c β L k).run T H = some r) (hl : Lent env H w β L E) {v : Value} (hc : conc env H c v) :
    ∃ s β' L' E', (k s β' L').run T H = some r ∧ Lent env H w β' L' E' ∧ Grow β L E β' L' E' ∧ conc2 (envOf E') (ofL L') s v := by
  unfold lendArg at h
  split at h
  · obtain ⟨vs, rfl, hc⟩ := hc
    obtain ⟨ss, β1, L1, E1, h, hl1, g1, c1⟩ := lendCells_inv hh h hl hc
    exact ⟨_, _, _, E1, h, hl1, g1, vs, rfl, c1⟩
  · rename_i hna
    by_cases ht : ∃ cs, c = .tup cs
    · obtain ⟨cs, rfl⟩ := ht
      simp [lend1, lend0, RM.run] at h
    · have hc := concC_of hc (fun cs e => hna cs e) (fun cs e => ht ⟨cs, e⟩)
      obtain ⟨s, β1, L1, E1, h, hl1, g1, c1⟩ := lend1_inv hh h hl hc
      exact ⟨_, _, _, E1, h, hl1, g1, conc2_of_concC c1⟩

theorem lendArgs_inv {α : Type} (hh : HRel wr env H w) : ∀ {vs : List SV} {ws : List Bool} {tss : List (List (Option Ty))} {β : List Src} {L : List Ent} {E : List (Option Addr × Nat)} {k : List SV → List Src → List Ent → RM α} {r : α} {us : List Value},
    (lendArgs ws tss vs β L k).run T H = some r → Lent env H w β L E → concL env H vs us →
    ∃ ss β' L' E', (k ss β' L').run T H = some r ∧ Lent env H w β' L' E' ∧ Grow β L E β' L' E' ∧ conc2s (envOf E') (ofL L') ss us
  | [], ws, tss, β, L, E, k, r, us, h, hl, hc => by
    rw [concL_nil hc]
    exact ⟨[], β, L, E, h, hl, .refl _ _ _, trivial⟩
  | c :: cs, ws, tss, β, L, E, k, r, us, h, hl, hc => by
    obtain ⟨v, vs, rfl, hv, hc⟩ := concL_cons hc
    simp only [lendArgs] at h
    obtain ⟨s, β1, L1, E1, h, hl1, g1, c1⟩ := lendArg_inv hh h hl hv
    obtain ⟨ss, β2, L2, E2, h, hl2, g2, c2⟩ := lendArgs_inv hh h hl1 hc
    exact ⟨s :: ss, β2, L2, E2, h, hl2, g1.trans g2, conc2_ext (g2.ext (by rw [hl1.l1, hl1.l2])) c1, c2⟩

end

end Go.Proofs.YtdhbkcaaijgocaaGreat.Sym

