/-
  What the rows of this claim stand on, part 1: the machine, the walks, the plain laws, as far as they are used.
  No condition.
-/
import Derived.Calls
import Derived.Orders
import Derived.Deep.LoopGhost
import Derived.Below
import Derived.KernelRfl
namespace Go.Proofs.YtnahfbjdicjdpaaGreat.Sym
open Go
set_option linter.unusedVariables false
set_option linter.unusedSimpArgs false

structure Vec where
  X : Int
  Y : Int
structure Shape where
  Kind : Int
  Wide : Int
  High : Int
structure Box where
  Low : Vec
  High : Vec
structure Item where
  Id : Int
  Box : Box
structure Pair where
  A : Int
  B : Int
structure Hit where
  Way : Vec
  Deep : Int
structure Contact where
  A : Int
  B : Int
  Hit : Hit
structure Event where
  Begins : Bool
  Pair : Pair
structure Body where
  Id : Int
  Shape : Shape
  At : Vec
  Drive : Vec
  Mass : Int
  Bounce : Int
  Rub : Int
  Quiet : Int

/-- Kinds of elements of lists. -/
inductive Ty where
  | int | byte | bool | vec | item | pair | hit | contact | event | body
  deriving DecidableEq

/-- Symbolic values. Names of blocks are numbers; in 'ptr j e o': block j, element e, cell o of it. -/
inductive SV where
  | int (k : IntKind) (n : Int)
  | bool (b : Bool)
  | nilp
  | ptr (j e o : Nat)
  | vec (j : Nat)
  | sl (j lo len : Nat)
  | nilsl
  | fn (f : Nat) (cap : Option Nat)
  | agg (cs : List SV)
  | tup (vs : List SV)
  | any

@[reducible] def i64 (n : Int) : SV := .int .i64 n

@[reducible] def Ty.El : Ty → Type
  | .int => Int
  | .byte => Int
  | .bool => Bool
  | .vec => Vec
  | .item => Item
  | .pair => Pair
  | .hit => Hit
  | .contact => Contact
  | .event => Event
  | .body => Body

def Ty.sz : Ty → Nat
  | .int => 1
  | .byte => 1
  | .bool => 1
  | .vec => 2
  | .item => 5
  | .pair => 2
  | .hit => 3
  | .contact => 5
  | .event => 3
  | .body => 12

def Ty.enc : (T : Ty) → T.El → List SV
  | .int, n => [.int .i64 n]
  | .byte, n => [.int .u8 n]
  | .bool, b => [.bool b]
  | .vec, v => [.int .i64 v.X, .int .i64 v.Y]
  | .item, x => [.int .i64 x.Id, .int .i64 x.Box.Low.X, .int .i64 x.Box.Low.Y, .int .i64 x.Box.High.X, .int .i64 x.Box.High.Y]
  | .pair, p => [.int .i64 p.A, .int .i64 p.B]
  | .hit, h => [.int .i64 h.Way.X, .int .i64 h.Way.Y, .int .i64 h.Deep]
  | .contact, c => [.int .i64 c.A, .int .i64 c.B, .int .i64 c.Hit.Way.X, .int .i64 c.Hit.Way.Y, .int .i64 c.Hit.Deep]
  | .event, e => [.bool e.Begins, .int .i64 e.Pair.A, .int .i64 e.Pair.B]
  | .body, b => [.int .i64 b.Id, .int .i64 b.Shape.Kind, .int .i64 b.Shape.Wide, .int .i64 b.Shape.High, .int .i64 b.At.X, .int .i64 b.At.Y,
      .int .i64 b.Drive.X, .int .i64 b.Drive.Y, .int .i64 b.Mass, .int .i64 b.Bounce, .int .i64 b.Rub, .int .i64 b.Quiet]

def Ty.dec : (T : Ty) → List SV → Option T.El
  | .int, [.int .i64 n] => some n
  | .byte, [.int .u8 n] => some n
  | .bool, [.bool b] => some b
  | .vec, [.int .i64 x, .int .i64 y] => some ⟨x, y⟩
  | .item, [.int .i64 i, .int .i64 a, .int .i64 b, .int .i64 c, .int .i64 d] => some ⟨i, ⟨⟨a, b⟩, ⟨c, d⟩⟩⟩
  | .pair, [.int .i64 a, .int .i64 b] => some ⟨a, b⟩
  | .hit, [.int .i64 a, .int .i64 b, .int .i64 c] => some ⟨⟨a, b⟩, c⟩
  | .contact, [.int .i64 a, .int .i64 b, .int .i64 c, .int .i64 d, .int .i64 e] => some ⟨a, b, ⟨⟨c, d⟩, e⟩⟩
  | .event, [.bool a, .int .i64 b, .int .i64 c] => some ⟨a, ⟨b, c⟩⟩
  | .body, [.int .i64 a, .int .i64 b, .int .i64 c, .int .i64 d, .int .i64 e, .int .i64 f, .int .i64 g, .int .i64 h, .int .i64 i, .int .i64 j, .int .i64 k, .int .i64 l] =>
      some ⟨a, ⟨b, c, d⟩, ⟨e, f⟩, ⟨g, h⟩, i, j, k, l⟩
  | _, _ => none

def Ty.dft : (T : Ty) → T.El
  | .int => (0 : Int)
  | .byte => (0 : Int)
  | .bool => false
  | .vec => ⟨0, 0⟩
  | .item => ⟨0, ⟨⟨0, 0⟩, ⟨0, 0⟩⟩⟩
  | .pair => ⟨0, 0⟩
  | .hit => ⟨⟨0, 0⟩, 0⟩
  | .contact => ⟨0, 0, ⟨⟨0, 0⟩, 0⟩⟩
  | .event => ⟨false, ⟨0, 0⟩⟩
  | .body => ⟨0, ⟨0, 0, 0⟩, ⟨0, 0⟩, ⟨0, 0⟩, 0, 0, 0, 0⟩

/-- The element of a list at a place; beyond its end the zero. -/
def Ty.ix (T : Ty) (xs : List T.El) (e : Nat) : T.El := xs.getD e T.dft

inductive Blk where
  | box (cs : List SV)
  | vec (T : Ty) (xs : List T.El)
  | dead

/-- A block, and whether it may be written. -/
abbrev Ent := Bool × Blk

/-- Slots and names, what was written last first. -/
structure St where
  T : List (Nat × SV)
  H : List (Nat × Ent)

def look {α : Type} (l : List (Nat × α)) (d : Nat) : Option α :=
  match l with
  | [] => none
  | (n, x) :: r => match Nat.beq n d with
    | true => some x
    | false => look r d

def St.slot (s : St) (d : Nat) : SV := match look s.T d with
  | some v => v
  | none => .any
def St.blk (s : St) (n : Nat) : Option Ent := look s.H n

/-- Programs that only read a symbolic state. -/
inductive RM (α : Type) where
  | ret (a : α)
  | fail
  | slot (d : Nat) (k : SV → RM α)
  | blk (n : Nat) (k : Option Ent → RM α)

/-- What an operation does: the value for its slot, and the names that it writes. 'ok': what must hold. -/
structure Delta where
  ok : Option Prop
  v : SV
  hs : List (Nat × Ent)

/-- What is known of a type: its cells, whether it is laid out in cells of its own, its fields (offset and size), the element type of a slice, the kind of its elements, its zero cells, the bytes of a value. -/
structure TI where
  size : Nat
  agg : Bool
  fields : List (Nat × Nat)
  elem : Nat
  ty : Option Ty
  kind : Option IntKind
  zero : List SV
  bytes : Nat
  flat : Bool
  cts : List (Option Ty)

/-- One value: its cells. -/
def SV.cells : SV → List SV
  | .agg cs => cs
  | v => [v]

def cst1 : Value → SV
  | .int k n => .int k n
  | .bool b => .bool b
  | .slice none 0 0 => .nilsl
  | .pointer none => .nilp
  | _ => .any
def cst : Value → SV
  | .agg cs => .agg (cs.toList.map cst1)
  | v => cst1 v

variable {α : Type}

def opv (x : Operand) (k : SV → RM α) : RM α :=
  match x with
  | .tmp t => .slot t k
  | .const v => k (cst v)
  | .func f => k (.fn f none)
  | .global _ => .fail

def opvs (xs : List Operand) (k : List SV → RM α) : RM α :=
  match xs with
  | [] => k []
  | x :: r => opv x fun v => opvs r fun vs => k (v :: vs)

/-- Each is one cell of which something is known. -/
def solid : List SV → Bool
  | [] => true
  | .any :: _ => false
  | .agg _ :: _ => false
  | .tup _ :: _ => false
  | _ :: r => solid r

def splice (cs : List SV) (o : Nat) (xs : List SV) : List SV := cs.take o ++ xs ++ cs.drop (o + xs.length)

def ret1 (v : SV) : RM Delta := .ret ⟨none, v, []⟩
def retc (p : Prop) (v : SV) : RM Delta := .ret ⟨some p, v, []⟩

/-- The name of a block that an operation with slot d makes. -/
def nm (d : Nat) : Nat := 64 + 8 * d

def fresh (n : Nat) (k : RM α) : RM α := .blk n fun
  | none => k
  | some _ => .fail

def eqCells : List SV → List SV → Option Bool
  | [], [] => some true
  | .int _ a :: r, .int _ b :: s => match r, s with
    | [], [] => some (a == b)
    | _, _ => (eqCells r s).map fun t => (a == b) && t
  | .bool a :: r, .bool b :: s => match r, s with
    | [], [] => some (a == b)
    | _, _ => (eqCells r s).map fun t => (a == b) && t
  | _, _ => none

def isCst : Operand → Bool
  | .const _ => true
  | _ => false

def arith (op : BinOp) (cy : Bool) (k : IntKind) (a b : Int) : RM Delta :=
  match op with
  | .add => ret1 (.int k (k.wrap (a + b)))
  | .sub => ret1 (.int k (k.wrap (a - b)))
  | .mul => ret1 (.int k (k.wrap (a * b)))
  | .quo => match cy with
    | true => (match b == 0 with
      | true => .fail
      | false => ret1 (.int k (k.wrap (a.tdiv b))))
    | false => retc (b ≠ 0) (.int k (k.wrap (a.tdiv b)))
  | .rem => match cy with
    | true => (match b == 0 with
      | true => .fail
      | false => ret1 (.int k (a.tmod b)))
    | false => retc (b ≠ 0) (.int k (a.tmod b))
  | .xor => ret1 (.int k (k.wrap (BitVec.ofInt k.bits a ^^^ BitVec.ofInt k.bits b).toNat))
  | .shr => (match cy, b == 1 with
    | true, true => ret1 (.int k (a.fdiv 2))
    | _, _ => .fail)
  | .eql => ret1 (.bool (a == b))
  | .neq => ret1 (.bool (a != b))
  | .lss => ret1 (.bool (decide (a < b)))
  | .leq => ret1 (.bool (decide (a ≤ b)))
  | .gtr => ret1 (.bool (decide (a > b)))
  | .geq => ret1 (.bool (decide (a ≥ b)))
  | _ => .fail

def kindEq (j k : IntKind) : Bool := match j, k with
  | .i64, .i64 => true
  | .u8, .u8 => true
  | .i8, .i8 => true
  | .i16, .i16 => true
  | .i32, .i32 => true
  | .u16, .u16 => true
  | .u32, .u32 => true
  | .u64, .u64 => true
  | _, _ => false

/-- The cells are of the kinds of the first list's. -/
def sameKinds : List SV → List SV → Bool
  | [], [] => true
  | .int j _ :: r, .int k _ :: s => match kindEq j k with
    | true => sameKinds r s
    | false => false
  | .bool _ :: r, .bool _ :: s => sameKinds r s
  | _, _ => false

def aggEq (op : BinOp) (flat : Bool) (zero : List SV) (xs ys : List SV) : RM Delta :=
  match flat, sameKinds zero xs, sameKinds zero ys, eqCells xs ys with
  | true, true, true, some b => (match op with
    | .eql => ret1 (.bool b)
    | .neq => ret1 (.bool (!b))
    | _ => .fail)
  | _, _, _, _ => .fail

def bin (op : BinOp) (cy : Bool) (i : TI) (x y : SV) : RM Delta :=
  match x, y with
  | .int k a, .int k' b => match kindEq k k' with
    | true => arith op cy k a b
    | false => .fail
  | .bool a, .bool b => (match i.agg, i.zero with
    | false, [.bool _] => (match op with
      | .eql => ret1 (.bool (a == b))
      | .neq => ret1 (.bool (!(a == b)))
      | _ => .fail)
    | _, _ => .fail)
  | .agg xs, .agg ys => aggEq op i.flat i.zero xs ys
  | _, _ => .fail

def un (op : UnOp) (x : SV) : RM Delta :=
  match op, x with
  | .neg, .int k n => ret1 (.int k (k.wrap (0 - n)))
  | .not, .bool b => ret1 (.bool !b)
  | _, _ => .fail

def shapeOf (agg : Bool) (cs : List SV) : Option SV :=
  match agg, cs with
  | true, cs => some (.agg cs)
  | false, [c] => some c
  | false, _ => none

def retO (v : Option SV) : RM Delta := match v with
  | some v => ret1 v
  | none => .fail

/-- A read of 'n' cells from cell o of element e of a block. -/
def readBlk (b : Option Ent) (e o n : Nat) (agg : Bool) : RM Delta :=
  match b with
  | some (_, .box cs) => match Nat.beq e 0 && Nat.ble (o + n) cs.length with
    | true => retO (shapeOf agg ((cs.drop o).take n))
    | false => .fail
  | some (_, .vec T xs) => match Nat.ble (o + n) T.sz with
    | true => retO (shapeOf agg (((T.enc (T.ix xs e)).drop o).take n))
    | false => .fail
  | _ => .fail

def noSlot : SV := .tup []

/-- A part of a list, written over. -/
def spl {α : Type} (xs : List α) (o : Nat) (ys : List α) : List α := xs.take o ++ ys ++ xs.drop (o + ys.length)

/-- Cells of one element of a list, written. -/
def setC (T : Ty) (xs : List T.El) (e o : Nat) (vs : List SV) : List T.El := match T.dec (splice (T.enc (T.ix xs e)) o vs) with
  | some x => xs.set e x
  | none => xs

def force1 {β : Sort 1} (v : SV) (K : SV → β) : β := match v with
  | .int k n => (match k with
    | .i64 => K (.int .i64 n)
    | .u8 => K (.int .u8 n)
    | k => K (.int k n))
  | .bool b => K (.bool b)
  | .nilp => K .nilp
  | .ptr j e o => K (.ptr j e o)
  | .vec j => K (.vec j)
  | .sl j lo n => K (.sl j lo n)
  | .nilsl => K .nilsl
  | .fn f c => K (.fn f c)
  | .agg cs => K (.agg cs)
  | .tup vs => K (.tup vs)
  | .any => K .any
def forceL {β : Sort 1} (cs : List SV) (K : List SV → β) : β := match cs with
  | [] => K []
  | c :: r => force1 c fun c => forceL r fun r => K (c :: r)
theorem force1_eq {β : Sort 1} (v : SV) (K : SV → β) : force1 v K = K v := by
  cases v <;> first | rfl | (rename_i k n; cases k <;> rfl)
theorem forceL_eq {β : Sort 1} : ∀ (cs : List SV) (K : List SV → β), forceL cs K = K cs
  | [], K => rfl
  | c :: r, K => by rw [forceL, force1_eq, forceL_eq r]

def writeBlk (j : Nat) (b : Option Ent) (e o n : Nat) (vs : List SV) : RM Delta :=
  match b, Nat.beq vs.length n && solid vs with
  | some (true, .box cs), true => (match Nat.beq e 0 && Nat.ble (o + n) cs.length with
    | true => .ret ⟨none, noSlot, [(j, true, .box (splice cs o vs))]⟩
    | false => .fail)
  | some (true, .vec T xs), true => (match Nat.ble (o + n) T.sz, T.dec (splice (T.enc (T.ix xs e)) o vs) with
    | true, some x => (match Nat.beq vs.length T.sz with
      | true => .ret ⟨none, noSlot, [(j, true, .vec T (xs.set e x))]⟩
      | false => forceL vs fun vs => .ret ⟨none, noSlot, [(j, true, .vec T (setC T xs e o vs))]⟩)
    | _, _ => .fail)
  | _, _ => .fail

def alive (j : Nat) (k : RM α) : RM α := .blk j fun
  | some (_, .box _) => k
  | some (_, .vec _ _) => k
  | _ => .fail

def lenOf (v : SV) (k : Nat → RM α) : RM α :=
  match v with
  | .vec j => .blk j fun
    | some (_, .vec _ xs) => k xs.length
    | _ => .fail
  | .sl j _ n => alive j (k n)
  | .nilsl => k 0
  | _ => .fail

/-- The elements of a slice of kind T. -/
def castTo (T : Ty) (U : Ty) (xs : List U.El) : Option (List T.El) :=
  match T, U, xs with
  | .int, .int, xs => some xs
  | .byte, .byte, xs => some xs
  | .bool, .bool, xs => some xs
  | .vec, .vec, xs => some xs
  | .item, .item, xs => some xs
  | .pair, .pair, xs => some xs
  | .hit, .hit, xs => some xs
  | .contact, .contact, xs => some xs
  | .event, .event, xs => some xs
  | .body, .body, xs => some xs
  | _, _, _ => none

def elems (T : Ty) (v : SV) (k : List T.El → RM α) : RM α :=
  match v with
  | .vec j => .blk j fun
    | some (_, .vec U xs) => (match castTo T U xs with
      | some ys => k ys
      | none => .fail)
    | _ => .fail
  | .sl j lo n => .blk j fun
    | some (_, .vec U xs) => (match castTo T U xs with
      | some ys => k ((ys.drop lo).take n)
      | none => .fail)
    | _ => .fail
  | .nilsl => k []
  | _ => .fail

def decAll (T : Ty) : List (List SV) → Option (List T.El)
  | [] => some []
  | c :: r => match T.dec c, decAll T r with
    | some x, some xs => some (x :: xs)
    | _, _ => none

def intOfSV (v : SV) (k : Int → RM α) : RM α := match v with
  | .int _ n => k n
  | _ => .fail

end Go.Proofs.YtnahfbjdicjdpaaGreat.Sym

namespace Go.Proofs.YtnahfbjdicjdpaaGreat.Sym
open Go
set_option linter.unusedVariables false
set_option linter.unusedSimpArgs false
variable {α : Type}

/-- What a function does: of each argument whether it may write it; the answer for given arguments and blocks: a condition, the result, the blocks behind it (those that came in, then new ones). -/
structure Fs where
  w : List Bool
  ev : List SV → List Ent → Option (Option Prop × SV × List Ent)

abbrev Tab := Nat → Option Fs
abbrev Types := Nat → Option TI

/-- Where a canonical name comes from: nowhere (a nil slice), a whole block of the caller's, or a part of a list of his. -/
inductive Src where
  | nil
  | whole (j : Nat)
  | part (j lo n : Nat)

def posOf (j : Nat) : List Src → Nat → Option Nat
  | [], _ => none
  | .whole i :: r, k => match Nat.beq i j with
    | true => some k
    | false => posOf j r (k + 1)
  | _ :: r, k => posOf j r (k + 1)

def Src.name : Src → Option Nat
  | .nil => none
  | .whole j => some j
  | .part j _ _ => some j

/-- What is lent for writing is lent once. -/
def lentOnce (j : Nat) (w : Bool) : List Src → List Ent → Bool
  | s :: b, (rw, _) :: h => match s.name with
    | some i => (match Nat.beq i j, w || rw with
      | true, true => false
      | _, _ => lentOnce j w b h)
    | none => lentOnce j w b h
  | _, _ => true

def allOnce : List Src → List Ent → Bool
  | s :: b, (rw, _) :: h => match s.name with
    | some j => lentOnce j rw b h && allOnce b h
    | none => allOnce b h
  | _, _ => true

/-- One cell without addresses of its own, as an argument; 'w': lent for writing. -/
def lend0 (w : Bool) (ct : Option Ty) (c : SV) (β : List Src) (H : List Ent) (k : SV → List Src → List Ent → RM α) : RM α :=
  match c with
  | .int a n => k (.int a n) β H
  | .bool b => k (.bool b) β H
  | .nilp => k .nilp β H
  | .fn f none => k (.fn f none) β H
  | .vec j => .blk j fun
    | some (rw, .vec T xs) => (match w, rw with
      | true, true => k (.vec H.length) (β ++ [.whole j]) (H ++ [(true, .vec T xs)])
      | true, false => .fail
      | false, _ => k (.vec H.length) (β ++ [.whole j]) (H ++ [(false, .vec T xs)]))
    | _ => .fail
  | .sl j lo n => .blk j fun
    | some (_, .vec T xs) => (match w with
      | true => .fail
      | false => k (.vec H.length) (β ++ [.part j lo n]) (H ++ [(false, .vec T ((xs.drop lo).take n))]))
    | _ => .fail
  | .nilsl => match ct, w with
    | some T, false => k (.vec H.length) (β ++ [.nil]) (H ++ [(false, .vec T [])])
    | _, _ => .fail
  | _ => .fail

def lend0s (cs : List SV) (β : List Src) (H : List Ent) (k : List SV → List Src → List Ent → RM α) : RM α :=
  match cs with
  | [] => k [] β H
  | c :: r => lend0 false none c β H fun v β H => lend0s r β H fun vs β H => k (v :: vs) β H

/-- A block that an address names. -/
def lendB (j : Nat) (β : List Src) (H : List Ent) (k : Nat → List Src → List Ent → RM α) : RM α :=
  match posOf j β 0 with
  | some i => k i β H
  | none => .blk j fun
    | some (rw, .box cs) => lend0s cs β H fun cs β H => k H.length (β ++ [.whole j]) (H ++ [(rw, .box cs)])
    | some (rw, .vec T xs) => k H.length (β ++ [.whole j]) (H ++ [(rw, .vec T xs)])
    | _ => .fail

def lend1 (w : Bool) (ct : Option Ty) (c : SV) (β : List Src) (H : List Ent) (k : SV → List Src → List Ent → RM α) : RM α :=
  match c with
  | .ptr j e o => lendB j β H fun i β H => k (.ptr i e o) β H
  | .fn f (some j) => lendB j β H fun i β H => k (.fn f (some i)) β H
  | c => lend0 w ct c β H k

def lendCells (w : Bool) (cts : List (Option Ty)) (cs : List SV) (β : List Src) (H : List Ent) (k : List SV → List Src → List Ent → RM α) : RM α :=
  match cs with
  | [] => k [] β H
  | c :: r => lend1 w (cts.headD none) c β H fun v β H => lendCells w cts.tail r β H fun vs β H => k (v :: vs) β H

def lendArg (w : Bool) (cts : List (Option Ty)) (v : SV) (β : List Src) (H : List Ent) (k : SV → List Src → List Ent → RM α) : RM α :=
  match v with
  | .agg cs => lendCells w cts cs β H fun cs β H => k (.agg cs) β H
  | c => lend1 w (cts.headD none) c β H k

def lendArgs (ws : List Bool) (tss : List (List (Option Ty))) (vs : List SV) (β : List Src) (H : List Ent) (k : List SV → List Src → List Ent → RM α) : RM α :=
  match vs with
  | [] => k [] β H
  | v :: r => lendArg (ws.headD false) (tss.headD []) v β H fun v β H => lendArgs ws.tail tss.tail r β H fun vs β H => k (v :: vs) β H

/-- A canonical name's own name with the caller. -/
def backN (β : List Src) (d : Nat) (n : Nat) : Option Nat :=
  match Nat.blt n β.length with
  | true => (match β[n]? with
    | some (.whole j) => some j
    | _ => none)
  | false => some (nm d + (n - β.length))

def back1 (β : List Src) (d : Nat) (c : SV) : Option SV :=
  match c with
  | .vec n => (match Nat.blt n β.length with
    | true => (match β[n]? with
      | some (.whole j) => some (.vec j)
      | some (.part j lo m) => some (.sl j lo m)
      | some .nil => some .nilsl
      | none => none)
    | false => some (.vec (nm d + (n - β.length))))
  | .ptr n e o => (backN β d n).map fun j => .ptr j e o
  | .sl n lo m => (match Nat.blt n β.length with
    | true => (match β[n]? with
      | some (.whole j) => some (.sl j lo m)
      | some (.part j lo' _) => some (.sl j (lo' + lo) m)
      | some .nil => some .nilsl
      | none => none)
    | false => some (.sl (nm d + (n - β.length)) lo m))
  | .int k n => some (.int k n)
  | .bool b => some (.bool b)
  | .nilp => some .nilp
  | .nilsl => some .nilsl
  | _ => none

def backs (β : List Src) (d : Nat) : List SV → Option (List SV)
  | [] => some []
  | c :: r => match back1 β d c, backs β d r with
    | some c, some r => some (c :: r)
    | _, _ => none

def back2 (β : List Src) (d : Nat) (v : SV) : Option SV :=
  match v with
  | .agg cs => (backs β d cs).map .agg
  | c => back1 β d c

def back2s (β : List Src) (d : Nat) : List SV → Option (List SV)
  | [] => some []
  | c :: r => match back2 β d c, back2s β d r with
    | some c, some r => some (c :: r)
    | _, _ => none

def back3 (β : List Src) (d : Nat) (v : SV) : Option SV :=
  match v with
  | .tup vs => (back2s β d vs).map .tup
  | v => back2 β d v

def backBlk (β : List Src) (d : Nat) : Blk → Option Blk
  | .box cs => (backs β d cs).map .box
  | .vec T xs => some (.vec T xs)
  | .dead => some .dead

/-- What the caller's names are behind the call: written ones and new ones. 'H': as lent; 'H'': behind. -/
def backH (β : List Src) (d : Nat) : List Src → List Ent → List Ent → Nat → Option (List (Nat × Ent))
  | .whole j :: b, (true, _) :: h, (_, x) :: h', n => match backBlk β d x, backH β d b h h' n with
    | some x, some r => some ((j, true, x) :: r)
    | _, _ => none
  | _ :: b, _ :: h, _ :: h', n => backH β d b h h' n
  | [], [], (true, x) :: h', n => match backBlk β d x, backH β d [] [] h' (n + 1) with
    | some x, some r => some ((nm d + n, true, x) :: r)
    | _, _ => none
  | [], [], [], _ => some []
  | _, _, _, _ => none

/-- So many new names are free. -/
def freshes (d : Nat) : Nat → RM α → RM α
  | 0, k => k
  | n + 1, k => freshes d n (fresh (nm d + n) k)

def callF (fs : Fs) (tss : List (List (Option Ty))) (d : Nat) (args : List SV) : RM Delta :=
  lendArgs fs.w tss args [] [] fun vs β H => match fs.ev vs H with
    | some (p, r, H') => (match allOnce β H, back3 β d r, backH β d β H H' 0 with
      | true, some r, some hs => freshes d (H'.length - H.length) (.ret ⟨p, r, hs⟩)
      | _, _, _ => .fail)
    | none => .fail

def tiOf (tt : Types) (t : Nat) (k : TI → RM α) : RM α := match tt t with
  | some i => k i
  | none => .fail

def ctsOf (tt : Types) : List Nat → List (List (Option Ty))
  | [] => []
  | t :: r => (match tt t with
    | some i => i.cts
    | none => []) :: ctsOf tt r

def call (tt : Types) (S : Tab) (d : Nat) (f : Nat) (ts : List Nat) (args : List SV) : RM Delta :=
  match S f with
  | some fs => callF fs (ctsOf tt ts) d args
  | none => .fail

def fillS (fields : Nat → Option (Nat × Nat)) (cells : List SV) : List (Nat × SV) → Option (List SV)
  | [] => some cells
  | (i, v) :: r => match fields i with
    | some (o, n) => (match Nat.beq v.cells.length n && Nat.ble (o + n) cells.length && solid v.cells with
      | true => fillS fields (splice cells o v.cells) r
      | false => none)
    | none => none

def opParts (xs : List (Nat × Operand)) (k : List (Nat × SV) → RM α) : RM α :=
  match xs with
  | [] => k []
  | (i, x) :: r => opv x fun v => opParts r fun vs => k ((i, v) :: vs)

def chunks (n : Nat) : Nat → List SV → List (List SV)
  | 0, _ => []
  | m + 1, cs => cs.take n :: chunks n m (cs.drop n)

def rep (n : Nat) (zs : List SV) : List SV := match n with
  | 0 => []
  | n + 1 => zs ++ rep n zs

def maxs (k : IntKind) (x : Int) : List SV → Option Int
  | [] => some x
  | .int j y :: r => (match kindEq j k with
    | true => maxs k (if y > x then y else x) r
    | false => none)
  | _ => none
def mins (k : IntKind) (x : Int) : List SV → Option Int
  | [] => some x
  | .int j y :: r => (match kindEq j k with
    | true => mins k (if y < x then y else x) r
    | false => none)
  | _ => none

/-- Elements take bytes. -/
def roomy (e : TI) (k : RM α) : RM α := match Nat.blt 0 e.bytes with
  | true => k
  | false => .fail

/-- Room that no append and no make may pass. -/
def room : Nat := 140737488351232

def blt (tt : Types) (d : Nat) (b : Builtin) (ts : List Nat) (vs : List SV) : RM Delta :=
  match b, vs with
  | .len, [v] => (match ts with
    | t :: _ => tiOf tt t fun i => (match i.ty with
      | some _ => lenOf v fun n => ret1 (.int .i64 n)
      | none => .fail)
    | [] => .fail)
  | .max, .int k x :: r => (match maxs k x r with
    | some n => ret1 (.int k n)
    | none => .fail)
  | .min, .int k x :: r => (match mins k x r with
    | some n => ret1 (.int k n)
    | none => .fail)
  | .append, [a, x] => tiOf tt (ts.headD 0) fun i => tiOf tt i.elem fun e => (match (match ts with
      | [t, t'] => (match Nat.beq t t' with
        | true => i.ty
        | false => none)
      | _ => none) with
    | some T => roomy e (elems T x fun ys => (match a with
      | .nilsl => fresh (nm d) (.ret ⟨some (ys.length * e.bytes ≤ room), .vec (nm d), [(nm d, true, .vec T ys)]⟩)
      | .vec j => .blk j fun
        | some (true, .vec U xs) => (match castTo T U xs with
          | some xs => fresh (nm d) (.ret ⟨some ((xs.length + ys.length) * e.bytes ≤ room), .vec (nm d), [(j, true, .dead), (nm d, true, .vec T (xs ++ ys))]⟩)
          | none => .fail)
        | _ => .fail
      | .sl j lo n => .blk j fun
        | some (true, .vec U xs) => (match castTo T U xs with
          | some xs => .ret ⟨some (lo + n + ys.length ≤ xs.length), .sl j lo (n + ys.length), [(j, true, .vec T (spl xs (lo + n) ys))]⟩
          | none => .fail)
        | _ => .fail
      | _ => .fail))
    | none => .fail)
  | _, _ => .fail

/-- 'clear' of a part of a list. -/
def clr (tt : Types) (ts : List Nat) (vs : List SV) : RM Delta :=
  match ts, vs with
  | t :: _, [.sl j lo n] => tiOf tt t fun i => tiOf tt i.elem fun e => (match i.ty with
    | some T => (match T.dec e.zero with
      | some z => .blk j fun
        | some (true, .vec U xs) => (match castTo T U xs with
          | some xs => .ret ⟨none, noSlot, [(j, true, .vec T (spl xs lo (List.replicate n z)))]⟩
          | none => .fail)
        | _ => .fail
      | none => .fail)
    | none => .fail)
  | _, _ => .fail

/-- The bound of a slice expression: nothing, or a number. -/
def bndOf (x : Option Operand) (k : Option Int → RM α) : RM α :=
  match x with
  | none => k none
  | some x => opv x fun
    | .int _ n => k (some n)
    | _ => .fail

/-- The block is a list of such elements; its length. -/
def tyIs (t : Option Ty) (j : Nat) (k : Nat → RM α) : RM α := .blk j fun
  | some (_, .vec U xs) => (match t with
    | some T => (match Nat.beq T.sz U.sz with
      | true => k xs.length
      | false => .fail)
    | none => .fail)
  | _ => .fail

def sliceOf (ty : Option Ty) (v : SV) (lo hi : Option Int) : RM Delta :=
  match v with
  | .vec j => tyIs ty j fun n => (match lo, hi with
    | none, none => ret1 (.vec j)
    | some l, none => retc (0 ≤ l ∧ l ≤ n) (.sl j l.toNat (n - l.toNat))
    | none, some h => retc (0 ≤ h ∧ h ≤ n) (.sl j 0 h.toNat)
    | some l, some h => retc (0 ≤ l ∧ l ≤ h ∧ h ≤ n) (.sl j l.toNat (h.toNat - l.toNat)))
  | .sl j o n => tyIs ty j fun m => (match lo, hi with
    | none, none => ret1 (.sl j o n)
    | some l, none => retc (0 ≤ l ∧ l ≤ n) (.sl j (o + l.toNat) (n - l.toNat))
    | none, some h => retc (0 ≤ h ∧ o + h ≤ m) (.sl j o h.toNat)
    | some l, some h => retc (0 ≤ l ∧ l ≤ h ∧ o + h ≤ m) (.sl j (o + l.toNat) (h.toNat - l.toNat)))
  | .nilsl => (match ty, lo, hi with
    | some _, none, none => ret1 .nilsl
    | some _, some l, none => retc (l = 0) .nilsl
    | some _, none, some h => retc (h = 0) .nilsl
    | some _, some l, some h => retc (l = 0 ∧ h = 0) .nilsl
    | none, _, _ => .fail)
  | _ => .fail

/-- 's[:0:0]' -/
def zeroCut (lo hi mx : Option Operand) : Bool :=
  match lo, hi, mx with
  | none, some (.const (.int _ h)), some (.const (.int _ m)) => h == 0 && m == 0
  | _, _, _ => false

def evOp (tt : Types) (S : Tab) (o : Oper) : RM Delta :=
  match o.op, o.dst with
  | .move x, some _ => opv x ret1
  | .assign x, some _ => opv x ret1
  | .pick c a b, some _ => opv c fun
    | .bool t => (match t with
      | true => opv a ret1
      | false => opv b ret1)
    | _ => .fail
  | .alloc t, some d => tiOf tt t fun i => fresh (nm d) (.ret ⟨none, .ptr (nm d) 0 0, [(nm d, true, .box i.zero)]⟩)
  | .box t x, some d => opv x fun v => (match solid v.cells with
    | true => fresh (nm d) (.ret ⟨none, .ptr (nm d) 0 0, [(nm d, true, .box v.cells)]⟩)
    | false => .fail)
  | .build t ps, some _ => tiOf tt t fun i => opParts ps.toList fun ps => (match i.agg, fillS (i.fields[·]?) i.zero ps with
    | true, some cs => ret1 (.agg cs)
    | _, _ => .fail)
  | .buildSlice t n ps, some d => tiOf tt t fun i => tiOf tt i.elem fun e => opParts ps.toList fun ps => (match i.ty, fillS (fun i => some (i * e.size, e.size)) (rep n e.zero) ps, Nat.ble (n * e.size) 16777216 with
    | some T, some cs, true => (match decAll T (chunks e.size n cs) with
      | some xs => fresh (nm d) (.ret ⟨none, .vec (nm d), [(nm d, true, .vec T xs)]⟩)
      | none => .fail)
    | _, _, _ => .fail)
  | .load t x, some _ => tiOf tt t fun i => opv x fun
    | .ptr j e o => .blk j fun b => readBlk b e o i.size i.agg
    | _ => .fail
  | .store t x y, none => tiOf tt t fun i => opv x fun
    | .ptr j e o => opv y fun v => .blk j fun b => writeBlk j b e o i.size v.cells
    | _ => .fail
  | .nilCheck x, some _ => opv x fun
    | .ptr j e o => alive j (ret1 (.ptr j e o))
    | _ => .fail
  | .binOp op t x y _, some _ => opv x fun a => opv y fun b => tiOf tt t fun i => bin op (isCst y) i a b
  | .unOp op _ x, some _ => opv x fun a => un op a
  | .convert t0 t x, some _ => tiOf tt t0 fun _ => tiOf tt t fun i => opv x fun
    | .int _ n => (match i.kind with
      | some k => ret1 (.int k (k.wrap n))
      | none => .fail)
    | _ => .fail
  | .makeFunc (.func f) first caps, some _ => (match first.toList, caps.toList with
    | [], [] => ret1 (.fn f none)
    | [], [x] => opv x fun
      | .ptr j e o => (match Nat.beq e 0 && Nat.beq o 0 with
        | true => .blk j fun
          | some (_, .box _) => ret1 (.fn f (some j))
          | _ => .fail
        | false => .fail)
      | _ => .fail
    | _, _ => .fail)
  | .makeSlice t l c, some d => tiOf tt t fun i => tiOf tt i.elem fun e => opv l fun
    | .int .i64 n => opv c fun
      | .int .i64 m => (match i.ty with
        | some T => (match T.dec e.zero with
          | some z => roomy e <| fresh (nm d) (.ret ⟨some (0 ≤ n ∧ n = m ∧ n.toNat * e.bytes ≤ room), .vec (nm d), [(nm d, true, .vec T (List.replicate n.toNat z))]⟩)
          | none => .fail)
        | none => .fail)
      | _ => .fail
    | _ => .fail
  | .slice t x lo hi mx, some _ => tiOf tt t fun i => (match zeroCut lo hi mx, mx with
    | true, _ => opv x fun
      | .vec j => tyIs i.ty j fun _ => ret1 .nilsl
      | .nilsl => (match i.ty with
        | some _ => ret1 .nilsl
        | none => .fail)
      | _ => .fail
    | false, none => opv x fun v => bndOf lo fun l => bndOf hi fun h => sliceOf i.ty v l h
    | false, some m => opv x fun v => bndOf lo fun l => bndOf hi fun h => bndOf (some m) fun m => (match v, l, h, m with
      | .vec j, some l, some h, some m => tyIs i.ty j fun n => retc (0 ≤ l ∧ l ≤ h ∧ h ≤ m ∧ m ≤ n) .any
      | _, _, _, _ => .fail))
  | .fieldAddr t x f, some _ => tiOf tt t fun i => opv x fun
    | .ptr j e o => alive j (match i.fields[f]? with
      | some (k, _) => ret1 (.ptr j e (o + k))
      | none => .fail)
    | _ => .fail
  | .indexAddr t x ix, some _ => tiOf tt t fun i => opv x fun v => opv ix fun
    | .int _ n => (match v with
      | .vec j => tyIs i.ty j fun m => retc (0 ≤ n ∧ n < m) (.ptr j n.toNat 0)
      | .sl j lo m => tyIs i.ty j fun _ => retc (0 ≤ n ∧ n < m) (.ptr j (lo + n.toNat) 0)
      | _ => .fail)
    | _ => .fail
  | .extract x i, some _ => opv x fun
    | .tup vs => retO vs[i]?
    | _ => .fail
  | .call c, some d => opvs c.args.toList fun vs => (match c.callee with
    | .value (.func f) => call tt S d f c.argTypes.toList vs
    | .value (.tmp t) => .slot t fun
      | .fn f none => call tt S d f c.argTypes.toList vs
      | .fn f (some j) => .blk j fun
        | some (_, .box _) => call tt S d f c.argTypes.toList (vs ++ [.ptr j 0 0])
        | _ => .fail
      | _ => .fail
    | .builtin b => blt tt d b c.argTypes.toList vs
    | _ => .fail)
  | .call c, none => (match c.callee with
    | .builtin .clear => opvs c.args.toList fun vs => clr tt c.argTypes.toList vs
    | _ => .fail)
  | _, _ => .fail

def RM.run (T : Nat → SV) (H : Nat → Option Ent) : RM α → Option α
  | .ret a => some a
  | .fail => none
  | .slot d k => (k (T d)).run T H
  | .blk n k => (k (H n)).run T H

/-- Where a program looked: slots and names. -/
def RM.reads (T : Nat → SV) (H : Nat → Option Ent) : RM α → List Nat × List Nat
  | .ret _ => ([], [])
  | .fail => ([], [])
  | .slot d k => match (k (T d)).reads T H with
    | (a, b) => (d :: a, b)
  | .blk n k => match (k (H n)).reads T H with
    | (a, b) => (a, n :: b)

def putT (s : St) (dst : Option Nat) (v : SV) : St := match dst with
  | some d => ⟨(d, v) :: s.T, s.H⟩
  | none => s
def St.app (s : St) (dst : Option Nat) (δ : Delta) : St := putT ⟨s.T, δ.hs ++ s.H⟩ dst δ.v

def force2 {β : Sort 1} (v : SV) (K : SV → β) : β := match v with
  | .agg cs => forceL cs fun cs => K (.agg cs)
  | v => force1 v K
def force2s {β : Sort 1} (cs : List SV) (K : List SV → β) : β := match cs with
  | [] => K []
  | c :: r => force2 c fun c => force2s r fun r => K (c :: r)
def force3 {β : Sort 1} (v : SV) (K : SV → β) : β := match v with
  | .tup vs => force2s vs fun vs => K (.tup vs)
  | v => force2 v K
def forceB {β : Sort 1} (b : Blk) (K : Blk → β) : β := match b with
  | .box cs => forceL cs fun cs => K (.box cs)
  | .vec T xs => K (.vec T xs)
  | .dead => K .dead
def pushH {β : Sort 1} (hs : List (Nat × Ent)) (H : List (Nat × Ent)) (K : List (Nat × Ent) → β) : β := match hs with
  | [] => K H
  | (n, rw, b) :: r => forceB b fun b => pushH r H fun H => K ((n, rw, b) :: H)

def appK (s : St) (dst : Option Nat) (δ : Delta) (K : St → Prop) : Prop := match s with
  | ⟨T, H⟩ => force3 δ.v fun v => pushH δ.hs H fun H => match dst with
    | some d => K ⟨(d, v) :: T, H⟩
    | none => K ⟨T, H⟩
def putK (s : St) (dst : Option Nat) (v : SV) (K : St → Prop) : Prop := match s with
  | ⟨T, H⟩ => match dst with
    | some d => K ⟨(d, v) :: T, H⟩
    | none => K ⟨T, H⟩

def under (p : Option Prop) (q : Prop) : Prop := match p with
  | none => q
  | some p => p ∧ q

def ifB (c : Bool) (a b : Prop) : Prop := match c with
  | true => a
  | false => b

def dstOf (ops : List Oper) (g : Nat) : Option Nat := match ops[g]? with
  | some o => o.dst
  | none => none

/-- Nothing can be shown here (which kind of thing, at which slot). -/
inductive Bad (kind : Nat) (d : Option Nat) : Prop
theorem Bad.elim {k : Nat} {d : Option Nat} {α : Prop} (h : Bad k d) : α := nomatch h

def stepOp (tt : Types) (S : Tab) (o : Oper) (σ : St) (K : St → Prop) : Prop :=
  match (evOp tt S o).run σ.slot σ.blk with
  | some δ => under δ.ok (appK σ o.dst δ K)
  | none => Bad 1 o.dst

/-- 's == nil' of a whole list: how long the list is. -/
def ndOp (tt : Types) (σ : St) (o : Oper) : Option Nat :=
  match o.op with
  | .binOp .eql t (.tmp a) (.const (.slice none 0 0)) _ => (match σ.slot a, tt t with
    | .vec j, some i => (match i.ty, σ.blk j with
      | some _, some (_, .vec _ xs) => some xs.length
      | _, _ => none)
    | _, _ => none)
  | _ => none

/-- The operations one by one. -/
def goOps (tt : Types) (S : Tab) (all : List Oper) (ops : List Oper) (σ : St) (K : St → Prop) : Prop :=
  match ops with
  | [] => K σ
  | o :: r => match o.guard with
    | none => (match ndOp tt σ o, o.dst with
      | some n, some d => ∀ b : Bool, (b = true → n = 0) → putK σ (some d) (.bool b) fun s => goOps tt S all r s K
      | _, _ => stepOp tt S o σ fun s => goOps tt S all r s K)
    | some (g, want) => match dstOf all g with
      | some t => (match σ.slot t with
        | .bool c => ifB c
          (match want with
            | true => putK σ (some t) (.bool true) fun s => stepOp tt S o s fun s => goOps tt S all r s K
            | false => putK σ (some t) (.bool true) fun s => putK s o.dst noSlot fun s => goOps tt S all r s K)
          (match want with
            | false => putK σ (some t) (.bool false) fun s => stepOp tt S o s fun s => goOps tt S all r s K
            | true => putK σ (some t) (.bool false) fun s => putK s o.dst noSlot fun s => goOps tt S all r s K)
        | .tup [] => putK σ o.dst noSlot fun s => goOps tt S all r s K
        | _ => Bad 2 o.dst)
      | none => Bad 3 o.dst

end Go.Proofs.YtnahfbjdicjdpaaGreat.Sym

namespace Go.Proofs.YtnahfbjdicjdpaaGreat.Sym
open Go
set_option linter.unusedVariables false
set_option linter.unusedSimpArgs false

/-- What an operation touched: the slots and names that it read, the slot and the names that it wrote. -/
structure Foot where
  rs : List Nat
  rn : List Nat
  ws : List Nat
  wn : List Nat

def meets (a b : List Nat) : Bool := a.any fun x => b.any fun y => Nat.beq x y

def Foot.apart (a b : Foot) : Bool :=
  !(meets a.ws b.rs) && !(meets a.ws b.ws) && !(meets a.wn b.rn) && !(meets a.wn b.wn) && !(meets b.ws a.rs) && !(meets b.wn a.rn)

/-- Which operations come surely ahead of each: a list of places for each operation, out of the edges that bind. -/
def aheads (ops : List Oper) (acc : List (List Nat)) : List (List Nat) :=
  match ops with
  | [] => acc
  | o :: r => aheads r (acc ++ [o.after.toList.foldr (fun e s => match Region.binds .any e && Nat.blt e.on acc.length with
    | true => e.on :: ((acc[e.on]?).getD [] ++ s)
    | false => s) []])

/-- The edges that bind lead back. -/
def edgesBack : List Oper → Nat → Bool
  | [], _ => true
  | o :: r, j => (o.after.toList.all fun e => !(Region.binds .any e) || Nat.blt e.on j) && edgesBack r (j + 1)

/-- Every two operations of which neither surely comes first are apart. 'fs': the feet, first to last; 'as': what comes ahead of each. -/
def okFeet (n : Nat) (fs : List Foot) (as : List (List Nat)) : Bool :=
  (List.range n).all fun j => (List.range j).all fun i =>
    match fs[i]?, fs[j]?, as[j]? with
    | some a, some b, some s => (s.any fun x => Nat.beq x i) || a.apart b
    | _, _, _ => false

def forceN {β : Sort 1} (n : Nat) (K : Nat → β) : β := match n with
  | 0 => K 0
  | m + 1 => K (m + 1)
def bitN (x : Nat) : Nat := Nat.shiftLeft 1 x
def tbN (m n : Nat) : Bool := !(Nat.beq (Nat.land 1 (Nat.shiftRight m n)) 0)
def maskL : List Nat → Nat
  | [] => 0
  | x :: r => Nat.lor (bitN x) (maskL r)
structure MF where
  rs : Nat
  rn : Nat
  ws : Nat
  wn : Nat
def mf (f : Foot) : MF := ⟨maskL f.rs, maskL f.rn, maskL f.ws, maskL f.wn⟩
def noneN (a b : Nat) : Bool := Nat.beq (Nat.land a b) 0
def MF.apart (a b : MF) : Bool :=
  noneN a.ws b.rs && noneN a.ws b.ws && noneN a.wn b.rn && noneN a.wn b.wn && noneN b.ws a.rs && noneN b.wn a.rn
def mfs : List Foot → (List MF → Bool) → Bool
  | [], K => K []
  | f :: r, K => forceN (maskL f.rs) fun a => forceN (maskL f.rn) fun b => forceN (maskL f.ws) fun c => forceN (maskL f.wn) fun d => mfs r fun l => K (⟨a, b, c, d⟩ :: l)
def edgesM (es : List Edge) (acc : List Nat) : Nat := es.foldr (fun e s => match Region.binds .any e && Nat.blt e.on acc.length with
  | true => Nat.lor (bitN e.on) (Nat.lor ((acc[e.on]?).getD 0) s)
  | false => s) 0
def aheadsM : List Oper → List Nat → (List Nat → Bool) → Bool
  | [], acc, K => K acc
  | o :: r, acc, K => forceN (edgesM o.after.toList acc) fun m => aheadsM r (acc ++ [m]) K
def okPrev (a : Nat) (f : MF) : List MF → Nat → Bool
  | [], _ => true
  | g :: r, i => (match tbN a i with
    | true => true
    | false => g.apart f) && okPrev a f r (i + 1)
def chkM : List MF → List Nat → List MF → Bool
  | f :: fs, a :: as, prev => okPrev a f prev 0 && chkM fs as (prev ++ [f])
  | [], [], _ => true
  | _, _, _ => false
def fastFeet (n : Nat) (fs : List Foot) (ops : List Oper) : Bool :=
  mfs fs fun ms => aheadsM ops [] fun as => Nat.beq ms.length n && chkM ms as []

def footOf (tt : Types) (S : Tab) (o : Oper) (σ : St) (δ : Delta) (gs : List Nat) : Foot :=
  match (evOp tt S o).reads σ.slot σ.blk with
  | (a, b) => ⟨gs ++ a, b, o.dst.toList, δ.hs.map (·.1)⟩

def stepD (tt : Types) (S : Tab) (o : Oper) (gs : List Nat) (σ : St) (K : St → Foot → Prop) : Prop :=
  match (evOp tt S o).run σ.slot σ.blk with
  | some δ => under δ.ok (appK σ o.dst δ fun s => K s (footOf tt S o σ δ gs))
  | none => Bad 4 o.dst

def goDraw (tt : Types) (S : Tab) (all : List Oper) (ops : List Oper) (σ : St) (fs : List Foot) (K : St → Prop) : Prop :=
  match ops with
  | [] => (match fastFeet all.length fs all && edgesBack all 0 with
    | true => K σ
    | false => Bad 5 none)
  | o :: r => match o.guard with
    | none => stepD tt S o [] σ fun s f => goDraw tt S all r s (fs ++ [f]) K
    | some (g, want) => match dstOf all g with
      | some t => (match σ.slot t with
        | .bool c => ifB c
          (match want with
            | true => putK σ (some t) (.bool true) fun s => stepD tt S o [t] s fun s f => goDraw tt S all r s (fs ++ [f]) K
            | false => putK σ (some t) (.bool true) fun s => putK s o.dst noSlot fun s => goDraw tt S all r s (fs ++ [⟨[t], [], o.dst.toList, []⟩]) K)
          (match want with
            | false => putK σ (some t) (.bool false) fun s => stepD tt S o [t] s fun s f => goDraw tt S all r s (fs ++ [f]) K
            | true => putK σ (some t) (.bool false) fun s => putK s o.dst noSlot fun s => goDraw tt S all r s (fs ++ [⟨[t], [], o.dst.toList, []⟩]) K)
        | .tup [] => putK σ o.dst noSlot fun s => goDraw tt S all r s (fs ++ [⟨[t], [], o.dst.toList, []⟩]) K
        | _ => Bad 2 o.dst)
      | none => Bad 3 o.dst

/-- Canonical names: 'β': which name of the state each is (none: a new one); 'P': blocks of those from m on. -/
structure Can where
  β : List Src
  P : List Ent

def can0 (σ : St) (ct : Option Ty) (c : SV) (z : Can) (k : SV → Can → Option (List SV × List Ent)) : Option (List SV × List Ent) :=
  match c with
  | .vec j => (match posOf j z.β 0 with
    | some i => k (.vec i) z
    | none => match σ.blk j with
      | some (rw, .vec T xs) => k (.vec z.β.length) ⟨z.β ++ [.whole j], z.P ++ [(rw, .vec T xs)]⟩
      | _ => none)
  | .sl j lo n => (match posOf j z.β 0 with
    | some i => k (.sl i lo n) z
    | none => match σ.blk j with
      | some (rw, .vec T xs) => k (.sl z.β.length lo n) ⟨z.β ++ [.whole j], z.P ++ [(rw, .vec T xs)]⟩
      | _ => none)
  | .nilsl => (match ct with
    | some T => k (.vec z.β.length) ⟨z.β ++ [.nil], z.P ++ [(true, .vec T [])]⟩
    | none => k .nilsl z)
  | .int a n => k (.int a n) z
  | .bool b => k (.bool b) z
  | .nilp => k .nilp z
  | .fn f none => k (.fn f none) z
  | _ => none

def can0s (σ : St) (cts : List (Option Ty)) (cs : List SV) (z : Can) (k : List SV → Can → Option (List SV × List Ent)) : Option (List SV × List Ent) :=
  match cs with
  | [] => k [] z
  | c :: r => can0 σ (cts.headD none) c z fun v z => can0s σ cts.tail r z fun vs z => k (v :: vs) z

def canB (σ : St) (cts : List (Option Ty)) (j : Nat) (z : Can) (k : Nat → Can → Option (List SV × List Ent)) : Option (List SV × List Ent) :=
  match posOf j z.β 0 with
  | some i => k i z
  | none => match σ.blk j with
    | some (rw, .box cs) => can0s σ cts cs z fun cs z => (match posOf j z.β 0 with
      | none => k z.β.length ⟨z.β ++ [.whole j], z.P ++ [(rw, .box cs)]⟩
      | some _ => none)
    | some (rw, .vec T xs) => k z.β.length ⟨z.β ++ [.whole j], z.P ++ [(rw, .vec T xs)]⟩
    | _ => none

def can1 (σ : St) (ct : Option Ty) (c : SV) (z : Can) (k : SV → Can → Option (List SV × List Ent)) : Option (List SV × List Ent) :=
  match c with
  | .ptr j e o => canB σ [] j z fun i z => k (.ptr i e o) z
  | .fn f (some j) => canB σ [] j z fun i z => k (.fn f (some i)) z
  | c => can0 σ ct c z k

def can1s (σ : St) (cts : List (Option Ty)) (cs : List SV) (z : Can) (k : List SV → Can → Option (List SV × List Ent)) : Option (List SV × List Ent) :=
  match cs with
  | [] => k [] z
  | c :: r => can1 σ (cts.headD none) c z fun v z => can1s σ cts.tail r z fun vs z => k (v :: vs) z

def can2 (σ : St) (cts : List (Option Ty)) (v : SV) (z : Can) (k : SV → Can → Option (List SV × List Ent)) : Option (List SV × List Ent) :=
  match v with
  | .agg cs => can1s σ cts cs z fun cs z => k (.agg cs) z
  | .ptr j e o => canB σ cts j z fun i z => k (.ptr i e o) z
  | c => can1 σ (cts.headD none) c z k

def can2s (σ : St) (tss : List (List (Option Ty))) (vs : List SV) (z : Can) (k : List SV → Can → Option (List SV × List Ent)) : Option (List SV × List Ent) :=
  match vs with
  | [] => k [] z
  | v :: r => can2 σ (tss.headD []) v z fun v z => can2s σ tss.tail r z fun vs z => k (v :: vs) z

/-- The blocks of the arguments, their cells in canonical names. -/
def canArgs (σ : St) : Nat → Nat → Can → List Ent → (Can → List Ent → Option (List SV × List Ent)) → Option (List SV × List Ent)
  | 0, _, z, A, k => k z A
  | m + 1, j, z, A, k => match σ.blk j with
    | some (rw, .box cs) => can0s σ [] cs z fun cs z => canArgs σ m (j + 1) z (A ++ [(rw, .box cs)]) k
    | some (rw, b) => canArgs σ m (j + 1) z (A ++ [(rw, b)]) k
    | none => none

def canon (σ : St) (m : Nat) (tss : List (List (Option Ty))) (vs : List SV) : Option (List SV × List Ent) :=
  canArgs σ m 0 ⟨(List.range m).map .whole, []⟩ [] fun z A => can2s σ tss vs z fun vs z => match Nat.blt z.β.length 64 with
    | true => some (vs, A ++ z.P)
    | false => none

/-- What is said of a loop: its live slots (with the kinds of lists that may be nil), its states, how they look, what holds of the first one and each, a measure. -/
structure LS where
  S : Type
  live : List (Nat × List (Option Ty))
  shape : S → List SV × List Ent
  get : List SV → List Ent → Option S
  inv : S → S → Prop
  mu : S → Nat
  ok : ∀ v h s, get v h = some s → shape s = (v, h)

def number : List Ent → Nat → List (Nat × Ent)
  | [], _ => []
  | e :: r, n => (n, e) :: number r (n + 1)

def ofShape (live : List (Nat × List (Option Ty))) (x : List SV × List Ent) : St :=
  ⟨(live.map (·.1)).zip x.1, number x.2 0⟩

inductive Ex where
  | normal
  | exit (id : Nat)
  | ret

def firstRegion : Code → Nat
  | .region id _ _ => id
  | .seq a b => match firstRegion a with
    | 0 => firstRegion b
    | n => n
  | .cond _ a b => match firstRegion a with
    | 0 => firstRegion b
    | n => n
  | .block _ b => firstRegion b
  | .loop b => firstRegion b
  | _ => 0

abbrev Loops := Nat → Option LS

def enterLS (σ : St) (m : Nat) (l : LS) (K : l.S → Prop) : Prop :=
  match canon σ m (l.live.map (·.2)) (l.live.map fun x => σ.slot x.1) with
  | some (v, h) => (match l.get v h with
    | some s => K s
    | none => Bad 6 none)
  | none => Bad 7 none

def condOf (σ : St) : Operand → SV
  | .tmp t => σ.slot t
  | .const v => cst v
  | _ => .any

def evP (tt : Types) (S : Tab) (L : Loops) (m : Nat) (c : Code) (σ : St) (K : Ex → St → Prop) : Prop :=
  match c with
  | .skip => K .normal σ
  | .region _ ops draw => match draw with
    | true => goDraw tt S ops.toList ops.toList σ [] (K .normal)
    | false => goOps tt S ops.toList ops.toList σ (K .normal)
  | .seq a b => evP tt S L m a σ fun e s => match e with
    | .normal => evP tt S L m b s K
    | .exit i => K (.exit i) s
    | .ret => K .ret s
  | .cond c x y => match condOf σ c with
    | .bool t => ifB t (evP tt S L m x σ K) (evP tt S L m y σ K)
    | _ => Bad 8 none
  | .block id b => evP tt S L m b σ fun e s => match e with
    | .normal => K .normal s
    | .exit i => (match Nat.beq i id with
      | true => K .normal s
      | false => K (.exit i) s)
    | .ret => K .ret s
  | .loop b => match L (firstRegion b) with
    | some l => enterLS σ m l fun s0 => l.inv s0 s0 ∧ ∀ x, l.inv s0 x → evP tt S L m b (ofShape l.live (l.shape x)) fun e s => match e with
      | .normal => enterLS s m l (fun y => l.inv s0 y ∧ l.mu y < l.mu x)
      | .exit i => K (.exit i) s
      | .ret => K .ret s
    | none => Bad 9 (some (firstRegion b))
  | .exit id => K (.exit id) σ
  | .ret => K .ret σ
  | _ => False

/-- The results of a function: its slots, or what lies behind them. -/
def resOf (tt : Types) (σ : St) : ResultVar → Option (SV × List (Option Ty))
  | .tmp t => some (σ.slot t, [])
  | .cell a t => match tt t, σ.slot a with
    | some i, .ptr j e o => (match (readBlk (σ.blk j) e o i.size i.agg).run σ.slot σ.blk with
      | some δ => some (δ.v, i.cts)
      | none => none)
    | _, _ => none

def resAll (tt : Types) (σ : St) : List ResultVar → List Nat → Option (List SV × List (List (Option Ty)))
  | [], _ => some ([], [])
  | r :: rs, ts => match resOf tt σ r, resAll tt σ rs ts.tail with
    | some (v, _), some (vs, cs) => some (v :: vs, (match tt (ts.headD 0) with
      | some i => i.cts
      | none => []) :: cs)
    | _, _ => none

/-- In a result, a list of the arguments' is a part of it. -/
def asPart (m : Nat) (h : List Ent) (c : SV) : SV := match c with
  | .vec i => (match Nat.blt i m, h[i]? with
    | true, some (_, .vec _ xs) => .sl i 0 xs.length
    | _, _ => .vec i)
  | c => c

def partsBlk (m : Nat) (h : List Ent) : List Ent → List Ent
  | [] => []
  | (rw, .box cs) :: r => (rw, .box (cs.map (asPart m h))) :: partsBlk m h r
  | e :: r => e :: partsBlk m h r

def parts2 (m : Nat) (h : List Ent) (v : SV) : SV := match v with
  | .agg cs => .agg (cs.map (asPart m h))
  | c => asPart m h c

def tupOf : List SV → SV
  | [v] => v
  | vs => .tup vs

def finish (tt : Types) (fn : Func) (m : Nat) (σ : St) (Q : SV → List Ent → Prop) : Prop :=
  match resAll tt σ fn.results.toList fn.resultTypes.toList with
  | some (vs, cs) => (match canon σ m cs vs with
    | some (vs, h) => Q (tupOf (vs.map (parts2 m h))) (h.take m ++ partsBlk m h (h.drop m))
    | none => Bad 10 none)
  | none => Bad 11 none

def startT : List SV → Nat → List (Nat × SV)
  | [], _ => []
  | v :: r, n => (n, v) :: startT r (n + 1)

def dsts (n : Nat) : Code → Bool
  | .region _ ops _ => ops.toList.all fun o => match o.dst with
    | some d => Nat.blt d n
    | none => true
  | .seq a b => dsts n a && dsts n b
  | .cond _ a b => dsts n a && dsts n b
  | .block _ b => dsts n b
  | .loop b => dsts n b
  | _ => true

/-- What is to be shown of a function at given arguments and blocks. -/
def fnVC (tt : Types) (S : Tab) (L : Loops) (fn : Func) (args : List SV) (H : List Ent) (Q : SV → List Ent → Prop) : Prop :=
  match fn.body with
  | some c => match dsts fn.ntmps c && Nat.blt H.length 64 with
    | true => evP tt S L H.length c ⟨startT args 0, number H 0⟩ fun e s => match e with
      | .normal => finish tt fn H.length s Q
      | .ret => finish tt fn H.length s Q
      | .exit _ => False
    | false => False
  | none => False

end Go.Proofs.YtnahfbjdicjdpaaGreat.Sym

namespace Go.Proofs.YtnahfbjdicjdpaaGreat.Sym
open Go
set_option linter.unusedVariables false
set_option linter.unusedSimpArgs false

abbrev Env := Nat → Option Addr × Nat
abbrev Hp := Nat → Option Ent

def svl : SV → Value
  | .int k n => .int k n
  | .bool b => .bool b
  | _ => .tuple #[]

def concC (env : Env) (H : Hp) (c : SV) (v : Value) : Prop :=
  match c with
  | .int k n => v = .int k n
  | .bool b => v = .bool b
  | .nilp => v = .pointer none
  | .ptr j e o => (match H j with
    | some (_, .dead) => v.oneCell' = true
    | some (_, .box _) => ∃ b, (env j).1 = some ⟨b, 0, none⟩ ∧ v = .pointer (some ⟨b, o, none⟩)
    | some (_, .vec T xs) => ∃ b off, (env j).1 = some ⟨b, off, none⟩ ∧ e < xs.length ∧ v = .pointer (some ⟨b, off + e * T.sz + o, none⟩)
    | none => False)
  | .vec j => (match H j with
    | some (_, .dead) => v.oneCell' = true
    | some (_, .vec _ xs) => v = .slice (env j).1 xs.length (env j).2
    | _ => False)
  | .sl j lo n => (match H j with
    | some (_, .dead) => v.oneCell' = true
    | some (_, .vec T xs) => lo + n ≤ xs.length ∧ ∃ x, v = .slice x n ((env j).2 - lo) ∧ ((env j).2 = lo ∨ x = (env j).1.map (·.add (lo * T.sz)))
    | _ => False)
  | .nilsl => ∃ x, v = .slice x 0 0
  | .fn f none => v = .func (.func f) #[] #[]
  | .fn f (some j) => (match H j with
    | some (_, .dead) => v.oneCell' = true
    | some (_, .box _) => ∃ b, (env j).1 = some ⟨b, 0, none⟩ ∧ v = .func (.func f) #[] #[.pointer (some ⟨b, 0, none⟩)]
    | _ => False)
  | .any => True
  | .agg _ => False
  | .tup _ => False

def concCs (env : Env) (H : Hp) : List SV → List Value → Prop
  | [], [] => True
  | c :: cs, v :: vs => concC env H c v ∧ concCs env H cs vs
  | _, _ => False

def conc2 (env : Env) (H : Hp) (c : SV) (v : Value) : Prop :=
  match c with
  | .agg cs => ∃ vs, v = .agg vs ∧ concCs env H cs vs.toList
  | c => concC env H c v

def conc2s (env : Env) (H : Hp) : List SV → List Value → Prop
  | [], [] => True
  | c :: cs, v :: vs => conc2 env H c v ∧ conc2s env H cs vs
  | _, _ => False

def conc (env : Env) (H : Hp) (c : SV) (v : Value) : Prop :=
  match c with
  | .tup cs => ∃ vs, v = .tuple vs ∧ conc2s env H cs vs.toList
  | c => conc2 env H c v

/-- The cells of a list lie in a block from a place on. -/
def Lies (T : Ty) (xs : List T.El) (vs : Array Value) (off : Nat) : Prop :=
  ∀ e, e < xs.length → ∀ o, o < T.sz → vs[off + e * T.sz + o]? = some (svl ((T.enc (T.ix xs e)).getD o .any))

def blkRel (env : Env) (H : Hp) (j : Nat) (rw : Bool) (b : Blk) (w : World) : Prop :=
  match b with
  | .box cs => ∃ b E vs fz, (env j).1 = some ⟨b, 0, none⟩ ∧ w.heap[b]? = some (.cells vs E fz) ∧ concCs env H cs vs.toList ∧ (rw = true → fz = (0, 0))
  | .vec T xs => xs.length ≤ (env j).2 ∧ ((env j).2 = 0 ∨ ∃ b off E vs fz, (env j).1 = some ⟨b, off, none⟩ ∧ w.heap[b]? = some (.cells vs E fz) ∧
      off + (env j).2 * T.sz ≤ vs.size ∧ Lies T xs vs off ∧ (rw = true → fz = (0, 0)))
  | .dead => True

/-- The block that a name owns. -/
def own (env : Env) (j : Nat) (b : Blk) : Option Nat :=
  match b with
  | .box _ => (env j).1.map (·.block)
  | .vec _ _ => if (env j).2 = 0 then none else (env j).1.map (·.block)
  | .dead => none

structure HRel (wr : Nat → Prop) (env : Env) (H : Hp) (w : World) : Prop where
  blk : ∀ j rw b, H j = some (rw, b) → blkRel env H j rw b w
  dj : ∀ i j ri bi rj bj, i ≠ j → H i = some (ri, bi) → H j = some (rj, bj) → (ri = true ∨ rj = true) → ∀ x, own env i bi = some x → own env j bj = some x → False
  wrt : ∀ j b, H j = some (true, b) → ∀ x, own env j b = some x → wr x

/-- Behind a stretch of code: what may not be written is as it was. -/
structure Fr (wr : Nat → Prop) (w0 w : World) : Prop where
  os : w.os = w0.os
  tape : w.tape = w0.tape
  output : w.output = w0.output
  size : w0.heap.size ≤ w.heap.size
  blk : ∀ k, k < w0.heap.size → ¬ wr k → w.heap[k]? = w0.heap[k]?

theorem Fr.refl (wr : Nat → Prop) (w : World) : Fr wr w w := ⟨rfl, rfl, rfl, Nat.le_refl _, fun _ _ _ => rfl⟩

theorem Fr.trans {wr : Nat → Prop} {a b c : World} (h : Fr wr a b) (k : Fr wr b c) : Fr wr a c :=
  ⟨k.os.trans h.os, k.tape.trans h.tape, k.output.trans h.output, Nat.le_trans h.size k.size, fun i hi hw => (k.blk i (Nat.lt_of_lt_of_le hi h.size) hw).trans (h.blk i hi hw)⟩

theorem Fr.weaken {wr wr' : Nat → Prop} {a b : World} (h : Fr wr a b) (hw : ∀ k, k < a.heap.size → wr k → wr' k) : Fr wr' a b :=
  ⟨h.os, h.tape, h.output, h.size, fun k hk hn => h.blk k hk fun x => hn (hw k hk x)⟩

structure Rel (n : Nat) (wr : Nat → Prop) (w0 : World) (env : Env) (T : Nat → SV) (H : Hp) (a : Act) (w : World) : Prop where
  defers : a.defers = []
  size : n ≤ a.tmps.size
  slots : ∀ d, conc env H (T d) (a.tmps.getD d undef)
  heap : HRel wr env H w
  fr : Fr wr w0 w
  new : ∀ k, w0.heap.size ≤ k → wr k

/-- How a block may change under those who name it. -/
def stays (b b' : Blk) : Prop :=
  match b, b' with
  | _, .dead => True
  | .box _, .box _ => True
  | .vec T xs, .vec U ys => T = U ∧ xs.length = ys.length
  | _, _ => False

theorem stays_refl (b : Blk) : stays b b := by cases b <;> simp [stays]

structure Ext (env : Env) (H : Hp) (env' : Env) (H' : Hp) : Prop where
  same : ∀ j r b, H j = some (r, b) → env' j = env j ∧ ∃ r' b', H' j = some (r', b') ∧ stays b b'

theorem Ext.refl (env : Env) (H : Hp) : Ext env H env H := ⟨fun j r b h => ⟨rfl, r, b, h, stays_refl b⟩⟩

theorem stays_trans {a b c : Blk} (h : stays a b) (k : stays b c) : stays a c := by
  cases a <;> cases b <;> cases c <;> simp_all [stays]

theorem Ext.trans {e1 e2 e3 : Env} {H1 H2 H3 : Hp} (h : Ext e1 H1 e2 H2) (k : Ext e2 H2 e3 H3) : Ext e1 H1 e3 H3 :=
  ⟨fun j r b hj => by
    obtain ⟨he, r', b', hj', hs⟩ := h.same j r b hj
    obtain ⟨he', r'', b'', hj'', hs'⟩ := k.same j r' b' hj'
    exact ⟨he'.trans he, r'', b'', hj'', stays_trans hs hs'⟩⟩

theorem concC_one {env : Env} {H : Hp} {c : SV} {v : Value} (h : concC env H c v) (hc : c ≠ .any) : v.oneCell' = true := by
  cases c with
  | any => exact absurd rfl hc
  | agg cs => exact h.elim
  | tup cs => exact h.elim
  | fn f cap =>
    cases cap with
    | none => simp only [concC] at h; rw [h]; rfl
    | some j =>
      simp only [concC] at h
      split at h
      · exact h
      · obtain ⟨b, _, e⟩ := h; rw [e]; rfl
      · exact h.elim
  | ptr j e o =>
    simp only [concC] at h
    split at h
    · exact h
    · obtain ⟨b, _, e⟩ := h; rw [e]; rfl
    · obtain ⟨b, off, _, _, e⟩ := h; rw [e]; rfl
    · exact h.elim
  | vec j =>
    simp only [concC] at h
    split at h
    · exact h
    · rw [h]; rfl
    · exact h.elim
  | sl j lo n =>
    simp only [concC] at h
    split at h
    · exact h
    · obtain ⟨_, x, e, _⟩ := h; rw [e]; rfl
    · exact h.elim
  | nilsl => obtain ⟨x, e⟩ := h; rw [e]; rfl
  | _ => simp only [concC] at h; rw [h]; rfl

theorem concC_ext {env env' : Env} {H H' : Hp} (x : Ext env H env' H') {c : SV} {v : Value} (h : concC env H c v) : concC env' H' c v := by
  have h1 := concC_one h
  cases c with
  | ptr j e o =>
    have h1 := h1 (by simp)
    simp only [concC] at h ⊢
    cases hj : H j with
    | none => simp [hj] at h
    | some p =>
      obtain ⟨r, b⟩ := p
      obtain ⟨he, r', b', hj', hs⟩ := x.same j r b hj
      rw [hj', he]
      rw [hj] at h
      cases b <;> cases b' <;> simp only [stays] at hs <;> first | exact h1 | exact h | skip
      obtain ⟨rfl, hl⟩ := hs
      simp only at h ⊢
      rw [← hl]
      exact h
  | vec j =>
    have h1 := h1 (by simp)
    simp only [concC] at h ⊢
    cases hj : H j with
    | none => simp [hj] at h
    | some p =>
      obtain ⟨r, b⟩ := p
      obtain ⟨he, r', b', hj', hs⟩ := x.same j r b hj
      rw [hj', he]
      rw [hj] at h
      cases b <;> cases b' <;> simp only [stays] at hs <;> first | exact h1 | exact h | skip
      obtain ⟨rfl, hl⟩ := hs
      simp only at h ⊢
      rw [← hl]
      exact h
  | sl j lo n =>
    have h1 := h1 (by simp)
    simp only [concC] at h ⊢
    cases hj : H j with
    | none => simp [hj] at h
    | some p =>
      obtain ⟨r, b⟩ := p
      obtain ⟨he, r', b', hj', hs⟩ := x.same j r b hj
      rw [hj', he]
      rw [hj] at h
      cases b <;> cases b' <;> simp only [stays] at hs <;> first | exact h1 | exact h | skip
      obtain ⟨rfl, hl⟩ := hs
      simp only at h ⊢
      rw [← hl]
      exact h
  | fn f cap =>
    cases cap with
    | none => exact h
    | some j =>
      have h1 := h1 (by simp)
      simp only [concC] at h ⊢
      cases hj : H j with
      | none => simp [hj] at h
      | some p =>
        obtain ⟨r, b⟩ := p
        obtain ⟨he, r', b', hj', hs⟩ := x.same j r b hj
        rw [hj', he]
        rw [hj] at h
        cases b <;> cases b' <;> simp only [stays] at hs <;> first | exact h1 | exact h
  | _ => exact h

theorem concCs_ext {env env' : Env} {H H' : Hp} (x : Ext env H env' H') : ∀ {cs : List SV} {vs : List Value}, concCs env H cs vs → concCs env' H' cs vs
  | [], [], h => h
  | _ :: _, _ :: _, h => ⟨concC_ext x h.1, concCs_ext x h.2⟩

theorem conc2_ext {env env' : Env} {H H' : Hp} (x : Ext env H env' H') {c : SV} {v : Value} (h : conc2 env H c v) : conc2 env' H' c v := by
  cases c <;> simp only [conc2] at h ⊢ <;> first | exact concC_ext x h | (obtain ⟨vs, e, h⟩ := h; exact ⟨vs, e, concCs_ext x h⟩)

theorem conc2s_ext {env env' : Env} {H H' : Hp} (x : Ext env H env' H') : ∀ {cs : List SV} {vs : List Value}, conc2s env H cs vs → conc2s env' H' cs vs
  | [], [], h => h
  | _ :: _, _ :: _, h => ⟨conc2_ext x h.1, conc2s_ext x h.2⟩

theorem conc_ext {env env' : Env} {H H' : Hp} (x : Ext env H env' H') {c : SV} {v : Value} (h : conc env H c v) : conc env' H' c v := by
  cases c <;> simp only [conc] at h ⊢ <;> first | exact conc2_ext x h | (obtain ⟨vs, e, h⟩ := h; exact ⟨vs, e, conc2s_ext x h⟩)

def updT (T : Nat → SV) (dst : Option Nat) (v : SV) : Nat → SV := fun d => match dst with
  | some t => (match Nat.beq t d with
    | true => v
    | false => T d)
  | none => T d
def updH (H : Hp) (hs : List (Nat × Ent)) : Hp := fun n => match look hs n with
  | some e => some e
  | none => H n

theorem Rel.put {n : Nat} {wr : Nat → Prop} {w0 : World} {env env' : Env} {T : Nat → SV} {H H' : Hp} {a : Act} {w w' : World} (h : Rel n wr w0 env T H a w)
    (x : Ext env H env' H') (hh : HRel wr env' H' w') (hf : Fr wr w w') {dst : Option Nat} (hd : ∀ d, dst = some d → d < n) {v : SV} {u : Value} (hc : conc env' H' v u) :
    Rel n wr w0 env' (updT T dst v) H' (a.put dst u) w' := by
  refine ⟨?_, ?_, ?_, hh, h.fr.trans hf, h.new⟩
  · cases dst <;> exact h.defers
  · cases dst <;> simp [Act.put] <;> exact h.size
  · intro d
    cases dst with
    | none => exact conc_ext x (h.slots d)
    | some t =>
      have ht := hd t rfl
      have hs := h.size
      simp only [updT, Act.put]
      cases e : Nat.beq t d with
      | true =>
        have : t = d := Nat.eq_of_beq_eq_true e
        subst this
        simp only
        rw [Array.getD_eq_getD_getElem?, Array.getElem?_setIfInBounds_self_of_lt (by omega)]
        exact hc
      | false =>
        have : t ≠ d := fun q => by subst q; simp at e
        simp only
        rw [Array.getD_eq_getD_getElem?, Array.getElem?_setIfInBounds_ne this, ← Array.getD_eq_getD_getElem?]
        exact conc_ext x (h.slots d)

def zeroFits : List SV → List Value → Bool
  | [], [] => true
  | .int k n :: r, .int j m :: s => k == j && n == m && zeroFits r s
  | .bool b :: r, .bool c :: s => b == c && zeroFits r s
  | .nilp :: r, .pointer none :: s => zeroFits r s
  | .nilsl :: r, .slice _ 0 0 :: s => zeroFits r s
  | _, _ => false

def tyOfDesc (P : Program) (E : Nat) (T : Ty) : Bool := (P.info? E).any fun i => i.size == T.sz

/-- The kinds of the cells of a type of whole numbers and bools (none: a bool); fields one behind the other, none hidden by '_'. -/
def flatFs (P : Program) (g : Nat → Option (List (Option IntKind))) : List Field → List (Option IntKind) → Option (List (Option IntKind))
  | [], acc => some acc
  | f :: r, acc => if f.name ≠ "_" ∧ f.offset = acc.length then (match g f.type with
      | some ks => if P.cellsOf f.type = ks.length ∧ 0 < ks.length then flatFs P g r (acc ++ ks) else none
      | none => none)
    else none

def flatK (P : Program) : Nat → Nat → Option (List (Option IntKind))
  | 0, _ => none
  | d + 1, t => match P.underlying t with
    | some (.int k) => some [some k]
    | some .bool => some [none]
    | some (.struct fs) => if P.stoodInHeld t = true then none else flatFs P (flatK P d) fs.toList []
    | _ => none

def kindsOf : List SV → List (Option IntKind)
  | [] => []
  | .int k _ :: r => some k :: kindsOf r
  | _ :: r => none :: kindsOf r

def zNilsl : List SV → Bool
  | [.nilsl] => true
  | _ => false
def zInt : List SV → Bool
  | [.int _ _] => true
  | _ => false
def zBool : List SV → Bool
  | [.bool _] => true
  | _ => false
def zNilp : List SV → Bool
  | [.nilp] => true
  | _ => false

def typeOk (P : Program) (t : Nat) (i : TI) : Bool :=
  match P.info? t, P.underlying t with
  | some n, some u => n.size == i.size && n.bytes == i.bytes && i.zero.length == i.size &&
      (match n.zero with
        | some z => zeroFits i.zero z.cells.toList && (match z with
          | .agg _ => i.agg
          | _ => !i.agg)
        | none => false) &&
      (match u with
        | .struct fs => i.agg && (fs.toList.map fun f => (f.offset, P.cellsOf f.type)) == i.fields && fs.toList.all (fun f => 0 < P.cellsOf f.type && P.info? f.type matches some _) && i.ty.isNone && i.kind.isNone &&
            (!i.flat || (flatK P 6 t == some (kindsOf i.zero) && !P.eqGuardType P.depth t))
        | .slice e => !i.agg && i.elem == e && (match i.ty with
            | some T => tyOfDesc P e T
            | none => false) && i.kind.isNone && i.fields.isEmpty && !i.flat && zNilsl i.zero
        | .int k => !i.agg && i.kind == some k && i.ty.isNone && i.fields.isEmpty && !i.flat && zInt i.zero
        | .bool => !i.agg && i.kind.isNone && i.ty.isNone && i.fields.isEmpty && !i.flat && zBool i.zero
        | .pointer _ => !i.agg && i.kind.isNone && i.ty.isNone && i.fields.isEmpty && !i.flat && zNilp i.zero
        | _ => false)
  | _, _ => false

def typesOk (P : Program) (l : List (Nat × TI)) : Bool := l.all fun (t, i) => typeOk P t i

theorem look_mem {α : Type} : ∀ {l : List (Nat × α)} {d : Nat} {x : α}, look l d = some x → (d, x) ∈ l
  | (n, y) :: r, d, x, h => by
    unfold look at h
    cases e : Nat.beq n d with
    | true =>
      have hn : n = d := Nat.eq_of_beq_eq_true e
      simp only [e] at h
      cases h
      subst hn
      exact List.mem_cons_self
    | false =>
      simp only [e] at h
      exact List.mem_cons_of_mem _ (look_mem h)

/-- The table says of each type what the program says. -/
def TabOk (P : Program) (tt : Types) : Prop := ∀ t i, tt t = some i → typeOk P t i = true

theorem tabOk_of {P : Program} {l : List (Nat × TI)} (h : typesOk P l = true) : TabOk P (look l) := fun t i hi => by
  have := List.all_eq_true.1 h _ (look_mem hi)
  exact this

end Go.Proofs.YtnahfbjdicjdpaaGreat.Sym

namespace Go.Proofs.YtnahfbjdicjdpaaGreat.Sym
open Go
set_option linter.unusedVariables false
set_option linter.unusedSimpArgs false

def Does (P : Program) (o : Oper) (a : Act) (w : World) (R : Value → World → Prop) : Prop :=
  (∃ v w', (execOp a.eval o).run P w = .ok (.value v) w' ∧ R v w') ∨
  (∃ w', (execOp a.eval o).run P w = .ok .skip w' ∧ R undef w') ∨
  (∃ f args, (execOp a.eval o).run P w = .ok (.enter f args) w ∧ Calls P f args w fun e w' => ∃ v, e = .returned v ∧ R v w')

theorem Does.wp {P : Program} {o : Oper} {a : Act} {w : World} {R : Value → World → Prop} (h : Does P o a w R) {K : Act → World → Prop} {Q : Exit → Act → World → Prop}
    (hk : ∀ v w', R v w' → K (a.put o.dst v) w') : o.wp P a w K Q := by
  unfold Oper.wp
  rcases h with ⟨v, w', hr, hR⟩ | ⟨w', hr, hR⟩ | ⟨f, args, hr, hc⟩
  · rw [hr]; exact hk _ _ hR
  · rw [hr]; exact hk _ _ hR
  · rw [hr]
    refine hc.mono ?_
    rintro e w'' ⟨v, rfl, hR⟩
    exact hk _ _ hR

/-- What is shown of an operation. -/
def Good (P : Program) (wr : Nat → Prop) (env : Env) (H : Hp) (a : Act) (w : World) (o : Oper) (δ : Delta) : Prop :=
  Does P o a w fun v w' => ∃ env', Ext env H env' (updH H δ.hs) ∧ HRel wr env' (updH H δ.hs) w' ∧ Fr wr w w' ∧ conc env' (updH H δ.hs) δ.v v

theorem updH_nil (H : Hp) : updH H [] = H := by funext n; simp [updH, look]

theorem good_pure {P : Program} {wr : Nat → Prop} {env : Env} {H : Hp} {a : Act} {w : World} {o : Oper} {p : Option Prop} {s : SV} {v : Value}
    (hh : HRel wr env H w) (hr : (execOp a.eval o).run P w = .ok (.value v) w) (hc : conc env H s v) : Good P wr env H a w o ⟨p, s, []⟩ :=
  .inl ⟨v, w, hr, env, by rw [updH_nil]; exact ⟨.refl _ _, hh, .refl _ _, hc⟩⟩

theorem cst1_ok (env : Env) (H : Hp) (v : Value) : concC env H (cst1 v) v := by
  unfold cst1
  split <;> simp [concC]

theorem csts_ok (env : Env) (H : Hp) : ∀ vs : List Value, concCs env H (vs.map cst1) vs
  | [] => trivial
  | v :: r => ⟨cst1_ok env H v, csts_ok env H r⟩

theorem conc_of_conc2 {env : Env} {H : Hp} {s : SV} {v : Value} (h : conc2 env H s v) : conc env H s v := by
  cases s <;> first | exact h | (simp [conc2, concC] at h)

theorem conc2_of_concC {env : Env} {H : Hp} {s : SV} {v : Value} (h : concC env H s v) : conc2 env H s v := by
  cases s <;> first | exact h | (simp [concC] at h)

theorem conc_of_concC {env : Env} {H : Hp} {s : SV} {v : Value} (h : concC env H s v) : conc env H s v := conc_of_conc2 (conc2_of_concC h)

theorem cst_ok (env : Env) (H : Hp) (v : Value) : conc env H (cst v) v := by
  unfold cst
  split
  · rename_i cs
    exact ⟨cs, rfl, csts_ok env H cs.toList⟩
  · exact conc_of_concC (cst1_ok env H v)

section
variable {α : Type} {T : Nat → SV} {H : Hp} {env : Env} {a : Act}

theorem opv_inv (hs : ∀ d, conc env H (T d) (a.tmps.getD d undef)) {x : Operand} {k : SV → RM α} {r : α} (h : (opv x k).run T H = some r) :
    ∃ s, (k s).run T H = some r ∧ conc env H s (a.eval x) := by
  cases x with
  | tmp t => exact ⟨T t, h, hs t⟩
  | const v => exact ⟨_, h, cst_ok env H v⟩
  | func f => exact ⟨_, h, rfl⟩
  | global g => simp [opv, RM.run] at h

def concL (env : Env) (H : Hp) : List SV → List Value → Prop
  | [], [] => True
  | c :: cs, v :: vs => conc env H c v ∧ concL env H cs vs
  | _, _ => False

theorem opvs_inv (hs : ∀ d, conc env H (T d) (a.tmps.getD d undef)) : ∀ {xs : List Operand} {k : List SV → RM α} {r : α}, (opvs xs k).run T H = some r →
    ∃ ss, (k ss).run T H = some r ∧ concL env H ss (xs.map a.eval)
  | [], k, r, h => ⟨[], h, trivial⟩
  | x :: xs, k, r, h => by
    obtain ⟨s, h, hc⟩ := opv_inv hs h
    obtain ⟨ss, h, hcs⟩ := opvs_inv hs h
    exact ⟨s :: ss, h, hc, hcs⟩

theorem tiOf_inv {tt : Types} {t : Nat} {k : TI → RM α} {r : α} (h : (tiOf tt t k).run T H = some r) : ∃ i, tt t = some i ∧ (k i).run T H = some r := by
  unfold tiOf at h
  split at h
  · exact ⟨_, by assumption, h⟩
  · simp [RM.run] at h
end

theorem conc_int {env : Env} {H : Hp} {k : IntKind} {n : Int} {v : Value} (h : conc env H (.int k n) v) : v = .int k n := h
theorem conc_bool {env : Env} {H : Hp} {b : Bool} {v : Value} (h : conc env H (.bool b) v) : v = .bool b := h

section
variable {P : Program} {wr : Nat → Prop} {env : Env} {H : Hp} {a : Act} {w : World} {T : Nat → SV} {δ : Delta}

theorem move_ok (hh : HRel wr env H w) (hs : ∀ d, conc env H (T d) (a.tmps.getD d undef)) {dst : Option Nat} {x : Operand} {t : Nat} {pos : String} {af : Array Edge} {g : Option (Nat × Bool)}
    (h : (opv x ret1).run T H = some δ) : Good P wr env H a w ⟨dst, .move x, t, pos, af, g⟩ δ ∧ Good P wr env H a w ⟨dst, .assign x, t, pos, af, g⟩ δ := by
  obtain ⟨s, h, hc⟩ := opv_inv hs h
  simp only [ret1, RM.run, Option.some.injEq] at h
  subst h
  exact ⟨good_pure hh rfl hc, good_pure hh rfl hc⟩

theorem pick_ok (hh : HRel wr env H w) (hs : ∀ d, conc env H (T d) (a.tmps.getD d undef)) {S : Tab} {tt : Types} {d : Nat} {c x y : Operand} {t : Nat} {pos : String} {af : Array Edge} {g : Option (Nat × Bool)}
    (h : (evOp tt S ⟨some d, .pick c x y, t, pos, af, g⟩).run T H = some δ) : Good P wr env H a w ⟨some d, .pick c x y, t, pos, af, g⟩ δ := by
  simp only [evOp] at h
  obtain ⟨s, h, hc⟩ := opv_inv hs h
  cases s <;> simp only [RM.run, reduceCtorEq] at h
  rename_i b
  have hb := conc_bool hc
  cases b <;> simp only at h <;> obtain ⟨s, h, hx⟩ := opv_inv hs h <;> simp only [ret1, RM.run, Option.some.injEq] at h <;> subst h <;>
    exact good_pure hh (by simp [execOp, hb, asBool, bind, Sem.bind, pure]) hx

end

end Go.Proofs.YtnahfbjdicjdpaaGreat.Sym

