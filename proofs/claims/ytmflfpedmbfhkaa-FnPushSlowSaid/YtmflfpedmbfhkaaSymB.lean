/-
  The symbolic machine, second part: calls by a table of what functions do, the operations, regions, and the condition under which a function's code does what is said of it.
  No condition: definitions alone.
-/
import Derived.Test.YtmflfpedmbfhkaaSymA
namespace Go.Proofs.Ytmflfpedmbfhkaa.Sym
open Go
set_option linter.unusedVariables false
set_option linter.unusedSimpArgs false
variable {α : Type}

/-- What a function does: of each argument whether it may write it; the answer for given arguments and blocks: a condition, the result, the blocks behind it (those that came in, then new ones). -/
structure Fs where
  w : List Bool
  ev : List SV → List Ent → Option (Option Prop × SV × List Ent)

abbrev Tab := Nat → Option Fs
abbrev Types := Nat → Option TI

/-- Where a canonical name comes from: nowhere (a nil slice), a whole block of the caller's, or a part of a list of his. -/
inductive Src where
  | nil
  | whole (j : Nat)
  | part (j lo n : Nat)

def posOf (j : Nat) : List Src → Nat → Option Nat
  | [], _ => none
  | .whole i :: r, k => match Nat.beq i j with
    | true => some k
    | false => posOf j r (k + 1)
  | _ :: r, k => posOf j r (k + 1)

def Src.name : Src → Option Nat
  | .nil => none
  | .whole j => some j
  | .part j _ _ => some j

/-- What is lent for writing is lent once. -/
def lentOnce (j : Nat) (w : Bool) : List Src → List Ent → Bool
  | s :: b, (rw, _) :: h => match s.name with
    | some i => (match Nat.beq i j, w || rw with
      | true, true => false
      | _, _ => lentOnce j w b h)
    | none => lentOnce j w b h
  | _, _ => true

def allOnce : List Src → List Ent → Bool
  | s :: b, (rw, _) :: h => match s.name with
    | some j => lentOnce j rw b h && allOnce b h
    | none => allOnce b h
  | _, _ => true

/-- One cell without addresses of its own, as an argument; 'w': lent for writing. -/
def lend0 (w : Bool) (ct : Option Ty) (c : SV) (β : List Src) (H : List Ent) (k : SV → List Src → List Ent → RM α) : RM α :=
  match c with
  | .int a n => k (.int a n) β H
  | .bool b => k (.bool b) β H
  | .nilp => k .nilp β H
  | .fn f none => k (.fn f none) β H
  | .vec j => .blk j fun
    | some (rw, .vec T xs) => (match w, rw with
      | true, true => k (.vec H.length) (β ++ [.whole j]) (H ++ [(true, .vec T xs)])
      | true, false => .fail
      | false, _ => k (.vec H.length) (β ++ [.whole j]) (H ++ [(false, .vec T xs)]))
    | _ => .fail
  | .sl j lo n => .blk j fun
    | some (_, .vec T xs) => (match w with
      | true => .fail
      | false => k (.vec H.length) (β ++ [.part j lo n]) (H ++ [(false, .vec T ((xs.drop lo).take n))]))
    | _ => .fail
  | .nilsl => match ct, w with
    | some T, false => k (.vec H.length) (β ++ [.nil]) (H ++ [(false, .vec T [])])
    | _, _ => .fail
  | _ => .fail

def lend0s (cs : List SV) (β : List Src) (H : List Ent) (k : List SV → List Src → List Ent → RM α) : RM α :=
  match cs with
  | [] => k [] β H
  | c :: r => lend0 false none c β H fun v β H => lend0s r β H fun vs β H => k (v :: vs) β H

/-- A block that an address names. -/
def lendB (j : Nat) (β : List Src) (H : List Ent) (k : Nat → List Src → List Ent → RM α) : RM α :=
  match posOf j β 0 with
  | some i => k i β H
  | none => .blk j fun
    | some (rw, .box cs) => lend0s cs β H fun cs β H => k H.length (β ++ [.whole j]) (H ++ [(rw, .box cs)])
    | some (rw, .vec T xs) => k H.length (β ++ [.whole j]) (H ++ [(rw, .vec T xs)])
    | _ => .fail

def lend1 (w : Bool) (ct : Option Ty) (c : SV) (β : List Src) (H : List Ent) (k : SV → List Src → List Ent → RM α) : RM α :=
  match c with
  | .ptr j e o => lendB j β H fun i β H => k (.ptr i e o) β H
  | .fn f (some j) => lendB j β H fun i β H => k (.fn f (some i)) β H
  | c => lend0 w ct c β H k

def lendCells (w : Bool) (cts : List (Option Ty)) (cs : List SV) (β : List Src) (H : List Ent) (k : List SV → List Src → List Ent → RM α) : RM α :=
  match cs with
  | [] => k [] β H
  | c :: r => lend1 w (cts.headD none) c β H fun v β H => lendCells w cts.tail r β H fun vs β H => k (v :: vs) β H

def lendArg (w : Bool) (cts : List (Option Ty)) (v : SV) (β : List Src) (H : List Ent) (k : SV → List Src → List Ent → RM α) : RM α :=
  match v with
  | .agg cs => lendCells w cts cs β H fun cs β H => k (.agg cs) β H
  | c => lend1 w (cts.headD none) c β H k

def lendArgs (ws : List Bool) (tss : List (List (Option Ty))) (vs : List SV) (β : List Src) (H : List Ent) (k : List SV → List Src → List Ent → RM α) : RM α :=
  match vs with
  | [] => k [] β H
  | v :: r => lendArg (ws.headD false) (tss.headD []) v β H fun v β H => lendArgs ws.tail tss.tail r β H fun vs β H => k (v :: vs) β H

/-- A canonical name's own name with the caller. -/
def backN (β : List Src) (d : Nat) (n : Nat) : Option Nat :=
  match Nat.blt n β.length with
  | true => (match β[n]? with
    | some (.whole j) => some j
    | _ => none)
  | false => some (nm d + (n - β.length))

def back1 (β : List Src) (d : Nat) (c : SV) : Option SV :=
  match c with
  | .vec n => (match Nat.blt n β.length with
    | true => (match β[n]? with
      | some (.whole j) => some (.vec j)
      | some (.part j lo m) => some (.sl j lo m)
      | some .nil => some .nilsl
      | none => none)
    | false => some (.vec (nm d + (n - β.length))))
  | .ptr n e o => (backN β d n).map fun j => .ptr j e o
  | .sl n lo m => (match Nat.blt n β.length with
    | true => (match β[n]? with
      | some (.whole j) => some (.sl j lo m)
      | some (.part j lo' _) => some (.sl j (lo' + lo) m)
      | some .nil => some .nilsl
      | none => none)
    | false => some (.sl (nm d + (n - β.length)) lo m))
  | .int k n => some (.int k n)
  | .bool b => some (.bool b)
  | .nilp => some .nilp
  | .nilsl => some .nilsl
  | _ => none

def backs (β : List Src) (d : Nat) : List SV → Option (List SV)
  | [] => some []
  | c :: r => match back1 β d c, backs β d r with
    | some c, some r => some (c :: r)
    | _, _ => none

def back2 (β : List Src) (d : Nat) (v : SV) : Option SV :=
  match v with
  | .agg cs => (backs β d cs).map .agg
  | c => back1 β d c

def back2s (β : List Src) (d : Nat) : List SV → Option (List SV)
  | [] => some []
  | c :: r => match back2 β d c, back2s β d r with
    | some c, some r => some (c :: r)
    | _, _ => none

def back3 (β : List Src) (d : Nat) (v : SV) : Option SV :=
  match v with
  | .tup vs => (back2s β d vs).map .tup
  | v => back2 β d v

def backBlk (β : List Src) (d : Nat) : Blk → Option Blk
  | .box cs => (backs β d cs).map .box
  | .vec T xs => some (.vec T xs)
  | .dead => some .dead

/-- What the caller's names are behind the call: written ones and new ones. 'H': as lent; 'H'': behind. -/
def backH (β : List Src) (d : Nat) : List Src → List Ent → List Ent → Nat → Option (List (Nat × Ent))
  | .whole j :: b, (true, _) :: h, (_, x) :: h', n => match backBlk β d x, backH β d b h h' n with
    | some x, some r => some ((j, true, x) :: r)
    | _, _ => none
  | _ :: b, _ :: h, _ :: h', n => backH β d b h h' n
  | [], [], (true, x) :: h', n => match backBlk β d x, backH β d [] [] h' (n + 1) with
    | some x, some r => some ((nm d + n, true, x) :: r)
    | _, _ => none
  | [], [], [], _ => some []
  | _, _, _, _ => none

/-- So many new names are free. -/
def freshes (d : Nat) : Nat → RM α → RM α
  | 0, k => k
  | n + 1, k => freshes d n (fresh (nm d + n) k)

def callF (fs : Fs) (tss : List (List (Option Ty))) (d : Nat) (args : List SV) : RM Delta :=
  lendArgs fs.w tss args [] [] fun vs β H => match fs.ev vs H with
    | some (p, r, H') => (match allOnce β H, back3 β d r, backH β d β H H' 0 with
      | true, some r, some hs => freshes d (H'.length - H.length) (.ret ⟨p, r, hs⟩)
      | _, _, _ => .fail)
    | none => .fail

def tiOf (tt : Types) (t : Nat) (k : TI → RM α) : RM α := match tt t with
  | some i => k i
  | none => .fail

def ctsOf (tt : Types) : List Nat → List (List (Option Ty))
  | [] => []
  | t :: r => (match tt t with
    | some i => i.cts
    | none => []) :: ctsOf tt r

def call (tt : Types) (S : Tab) (d : Nat) (f : Nat) (ts : List Nat) (args : List SV) : RM Delta :=
  match S f with
  | some fs => callF fs (ctsOf tt ts) d args
  | none => .fail

def fillS (fields : Nat → Option (Nat × Nat)) (cells : List SV) : List (Nat × SV) → Option (List SV)
  | [] => some cells
  | (i, v) :: r => match fields i with
    | some (o, n) => (match Nat.beq v.cells.length n && Nat.ble (o + n) cells.length && solid v.cells with
      | true => fillS fields (splice cells o v.cells) r
      | false => none)
    | none => none

def opParts (xs : List (Nat × Operand)) (k : List (Nat × SV) → RM α) : RM α :=
  match xs with
  | [] => k []
  | (i, x) :: r => opv x fun v => opParts r fun vs => k ((i, v) :: vs)

def chunks (n : Nat) : Nat → List SV → List (List SV)
  | 0, _ => []
  | m + 1, cs => cs.take n :: chunks n m (cs.drop n)

def rep (n : Nat) (zs : List SV) : List SV := match n with
  | 0 => []
  | n + 1 => zs ++ rep n zs

def maxs (k : IntKind) (x : Int) : List SV → Option Int
  | [] => some x
  | .int j y :: r => (match kindEq j k with
    | true => maxs k (if y > x then y else x) r
    | false => none)
  | _ => none
def mins (k : IntKind) (x : Int) : List SV → Option Int
  | [] => some x
  | .int j y :: r => (match kindEq j k with
    | true => mins k (if y < x then y else x) r
    | false => none)
  | _ => none

/-- Elements take bytes. -/
def roomy (e : TI) (k : RM α) : RM α := match Nat.blt 0 e.bytes with
  | true => k
  | false => .fail

/-- Room that no append and no make may pass. -/
def room : Nat := 140737488351232

def blt (tt : Types) (d : Nat) (b : Builtin) (ts : List Nat) (vs : List SV) : RM Delta :=
  match b, vs with
  | .len, [v] => (match ts with
    | t :: _ => tiOf tt t fun i => (match i.ty with
      | some _ => lenOf v fun n => ret1 (.int .i64 n)
      | none => .fail)
    | [] => .fail)
  | .max, .int k x :: r => (match maxs k x r with
    | some n => ret1 (.int k n)
    | none => .fail)
  | .min, .int k x :: r => (match mins k x r with
    | some n => ret1 (.int k n)
    | none => .fail)
  | .append, [a, x] => tiOf tt (ts.headD 0) fun i => tiOf tt i.elem fun e => (match (match ts with
      | [t, t'] => (match Nat.beq t t' with
        | true => i.ty
        | false => none)
      | _ => none) with
    | some T => roomy e (elems T x fun ys => (match a with
      | .nilsl => fresh (nm d) (.ret ⟨some (ys.length * e.bytes ≤ room), .vec (nm d), [(nm d, true, .vec T ys)]⟩)
      | .vec j => .blk j fun
        | some (true, .vec U xs) => (match castTo T U xs with
          | some xs => fresh (nm d) (.ret ⟨some ((xs.length + ys.length) * e.bytes ≤ room), .vec (nm d), [(j, true, .dead), (nm d, true, .vec T (xs ++ ys))]⟩)
          | none => .fail)
        | _ => .fail
      | .sl j lo n => .blk j fun
        | some (true, .vec U xs) => (match castTo T U xs with
          | some xs => .ret ⟨some (lo + n + ys.length ≤ xs.length), .sl j lo (n + ys.length), [(j, true, .vec T (spl xs (lo + n) ys))]⟩
          | none => .fail)
        | _ => .fail
      | _ => .fail))
    | none => .fail)
  | _, _ => .fail

/-- 'clear' of a part of a list. -/
def clr (tt : Types) (ts : List Nat) (vs : List SV) : RM Delta :=
  match ts, vs with
  | t :: _, [.sl j lo n] => tiOf tt t fun i => tiOf tt i.elem fun e => (match i.ty with
    | some T => (match T.dec e.zero with
      | some z => .blk j fun
        | some (true, .vec U xs) => (match castTo T U xs with
          | some xs => .ret ⟨none, noSlot, [(j, true, .vec T (spl xs lo (List.replicate n z)))]⟩
          | none => .fail)
        | _ => .fail
      | none => .fail)
    | none => .fail)
  | _, _ => .fail

/-- The bound of a slice expression: nothing, or a number. -/
def bndOf (x : Option Operand) (k : Option Int → RM α) : RM α :=
  match x with
  | none => k none
  | some x => opv x fun
    | .int _ n => k (some n)
    | _ => .fail

/-- The block is a list of such elements; its length. -/
def tyIs (t : Option Ty) (j : Nat) (k : Nat → RM α) : RM α := .blk j fun
  | some (_, .vec U xs) => (match t with
    | some T => (match Nat.beq T.sz U.sz with
      | true => k xs.length
      | false => .fail)
    | none => .fail)
  | _ => .fail

def sliceOf (ty : Option Ty) (v : SV) (lo hi : Option Int) : RM Delta :=
  match v with
  | .vec j => tyIs ty j fun n => (match lo, hi with
    | none, none => ret1 (.vec j)
    | some l, none => retc (0 ≤ l ∧ l ≤ n) (.sl j l.toNat (n - l.toNat))
    | none, some h => retc (0 ≤ h ∧ h ≤ n) (.sl j 0 h.toNat)
    | some l, some h => retc (0 ≤ l ∧ l ≤ h ∧ h ≤ n) (.sl j l.toNat (h.toNat - l.toNat)))
  | .sl j o n => tyIs ty j fun m => (match lo, hi with
    | none, none => ret1 (.sl j o n)
    | some l, none => retc (0 ≤ l ∧ l ≤ n) (.sl j (o + l.toNat) (n - l.toNat))
    | none, some h => retc (0 ≤ h ∧ o + h ≤ m) (.sl j o h.toNat)
    | some l, some h => retc (0 ≤ l ∧ l ≤ h ∧ o + h ≤ m) (.sl j (o + l.toNat) (h.toNat - l.toNat)))
  | .nilsl => (match ty, lo, hi with
    | some _, none, none => ret1 .nilsl
    | some _, some l, none => retc (l = 0) .nilsl
    | some _, none, some h => retc (h = 0) .nilsl
    | some _, some l, some h => retc (l = 0 ∧ h = 0) .nilsl
    | none, _, _ => .fail)
  | _ => .fail

/-- 's[:0:0]' -/
def zeroCut (lo hi mx : Option Operand) : Bool :=
  match lo, hi, mx with
  | none, some (.const (.int _ h)), some (.const (.int _ m)) => h == 0 && m == 0
  | _, _, _ => false

def evOp (tt : Types) (S : Tab) (o : Oper) : RM Delta :=
  match o.op, o.dst with
  | .move x, some _ => opv x ret1
  | .assign x, some _ => opv x ret1
  | .pick c a b, some _ => opv c fun
    | .bool t => (match t with
      | true => opv a ret1
      | false => opv b ret1)
    | _ => .fail
  | .alloc t, some d => tiOf tt t fun i => fresh (nm d) (.ret ⟨none, .ptr (nm d) 0 0, [(nm d, true, .box i.zero)]⟩)
  | .box t x, some d => opv x fun v => (match solid v.cells with
    | true => fresh (nm d) (.ret ⟨none, .ptr (nm d) 0 0, [(nm d, true, .box v.cells)]⟩)
    | false => .fail)
  | .build t ps, some _ => tiOf tt t fun i => opParts ps.toList fun ps => (match i.agg, fillS (i.fields[·]?) i.zero ps with
    | true, some cs => ret1 (.agg cs)
    | _, _ => .fail)
  | .buildSlice t n ps, some d => tiOf tt t fun i => tiOf tt i.elem fun e => opParts ps.toList fun ps => (match i.ty, fillS (fun i => some (i * e.size, e.size)) (rep n e.zero) ps, Nat.ble (n * e.size) 16777216 with
    | some T, some cs, true => (match decAll T (chunks e.size n cs) with
      | some xs => fresh (nm d) (.ret ⟨none, .vec (nm d), [(nm d, true, .vec T xs)]⟩)
      | none => .fail)
    | _, _, _ => .fail)
  | .load t x, some _ => tiOf tt t fun i => opv x fun
    | .ptr j e o => .blk j fun b => readBlk b e o i.size i.agg
    | _ => .fail
  | .store t x y, none => tiOf tt t fun i => opv x fun
    | .ptr j e o => opv y fun v => .blk j fun b => writeBlk j b e o i.size v.cells
    | _ => .fail
  | .nilCheck x, some _ => opv x fun
    | .ptr j e o => alive j (ret1 (.ptr j e o))
    | _ => .fail
  | .binOp op t x y _, some _ => opv x fun a => opv y fun b => tiOf tt t fun i => bin op (isCst y) i a b
  | .unOp op _ x, some _ => opv x fun a => un op a
  | .convert t0 t x, some _ => tiOf tt t0 fun _ => tiOf tt t fun i => opv x fun
    | .int _ n => (match i.kind with
      | some k => ret1 (.int k (k.wrap n))
      | none => .fail)
    | _ => .fail
  | .makeFunc (.func f) first caps, some _ => (match first.toList, caps.toList with
    | [], [] => ret1 (.fn f none)
    | [], [x] => opv x fun
      | .ptr j e o => (match Nat.beq e 0 && Nat.beq o 0 with
        | true => .blk j fun
          | some (_, .box _) => ret1 (.fn f (some j))
          | _ => .fail
        | false => .fail)
      | _ => .fail
    | _, _ => .fail)
  | .makeSlice t l c, some d => tiOf tt t fun i => tiOf tt i.elem fun e => opv l fun
    | .int .i64 n => opv c fun
      | .int .i64 m => (match i.ty with
        | some T => (match T.dec e.zero with
          | some z => roomy e <| fresh (nm d) (.ret ⟨some (0 ≤ n ∧ n = m ∧ n.toNat * e.bytes ≤ room), .vec (nm d), [(nm d, true, .vec T (List.replicate n.toNat z))]⟩)
          | none => .fail)
        | none => .fail)
      | _ => .fail
    | _ => .fail
  | .slice t x lo hi mx, some _ => tiOf tt t fun i => (match zeroCut lo hi mx, mx with
    | true, _ => opv x fun
      | .vec j => tyIs i.ty j fun _ => ret1 .nilsl
      | .nilsl => (match i.ty with
        | some _ => ret1 .nilsl
        | none => .fail)
      | _ => .fail
    | false, none => opv x fun v => bndOf lo fun l => bndOf hi fun h => sliceOf i.ty v l h
    | false, some m => opv x fun v => bndOf lo fun l => bndOf hi fun h => bndOf (some m) fun m => (match v, l, h, m with
      | .vec j, some l, some h, some m => tyIs i.ty j fun n => retc (0 ≤ l ∧ l ≤ h ∧ h ≤ m ∧ m ≤ n) .any
      | _, _, _, _ => .fail))
  | .fieldAddr t x f, some _ => tiOf tt t fun i => opv x fun
    | .ptr j e o => alive j (match i.fields[f]? with
      | some (k, _) => ret1 (.ptr j e (o + k))
      | none => .fail)
    | _ => .fail
  | .indexAddr t x ix, some _ => tiOf tt t fun i => opv x fun v => opv ix fun
    | .int _ n => (match v with
      | .vec j => tyIs i.ty j fun m => retc (0 ≤ n ∧ n < m) (.ptr j n.toNat 0)
      | .sl j lo m => tyIs i.ty j fun _ => retc (0 ≤ n ∧ n < m) (.ptr j (lo + n.toNat) 0)
      | _ => .fail)
    | _ => .fail
  | .extract x i, some _ => opv x fun
    | .tup vs => retO vs[i]?
    | _ => .fail
  | .call c, some d => opvs c.args.toList fun vs => (match c.callee with
    | .value (.func f) => call tt S d f c.argTypes.toList vs
    | .value (.tmp t) => .slot t fun
      | .fn f none => call tt S d f c.argTypes.toList vs
      | .fn f (some j) => .blk j fun
        | some (_, .box _) => call tt S d f c.argTypes.toList (vs ++ [.ptr j 0 0])
        | _ => .fail
      | _ => .fail
    | .builtin b => blt tt d b c.argTypes.toList vs
    | _ => .fail)
  | .call c, none => (match c.callee with
    | .builtin .clear => opvs c.args.toList fun vs => clr tt c.argTypes.toList vs
    | _ => .fail)
  | _, _ => .fail

def RM.run (T : Nat → SV) (H : Nat → Option Ent) : RM α → Option α
  | .ret a => some a
  | .fail => none
  | .slot d k => (k (T d)).run T H
  | .blk n k => (k (H n)).run T H

/-- Where a program looked: slots and names. -/
def RM.reads (T : Nat → SV) (H : Nat → Option Ent) : RM α → List Nat × List Nat
  | .ret _ => ([], [])
  | .fail => ([], [])
  | .slot d k => match (k (T d)).reads T H with
    | (a, b) => (d :: a, b)
  | .blk n k => match (k (H n)).reads T H with
    | (a, b) => (a, n :: b)

def putT (s : St) (dst : Option Nat) (v : SV) : St := match dst with
  | some d => ⟨(d, v) :: s.T, s.H⟩
  | none => s
def St.app (s : St) (dst : Option Nat) (δ : Delta) : St := putT ⟨s.T, δ.hs ++ s.H⟩ dst δ.v

def force2 {β : Sort 1} (v : SV) (K : SV → β) : β := match v with
  | .agg cs => forceL cs fun cs => K (.agg cs)
  | v => force1 v K
def force2s {β : Sort 1} (cs : List SV) (K : List SV → β) : β := match cs with
  | [] => K []
  | c :: r => force2 c fun c => force2s r fun r => K (c :: r)
def force3 {β : Sort 1} (v : SV) (K : SV → β) : β := match v with
  | .tup vs => force2s vs fun vs => K (.tup vs)
  | v => force2 v K
def forceB {β : Sort 1} (b : Blk) (K : Blk → β) : β := match b with
  | .box cs => forceL cs fun cs => K (.box cs)
  | .vec T xs => K (.vec T xs)
  | .dead => K .dead
def pushH {β : Sort 1} (hs : List (Nat × Ent)) (H : List (Nat × Ent)) (K : List (Nat × Ent) → β) : β := match hs with
  | [] => K H
  | (n, rw, b) :: r => forceB b fun b => pushH r H fun H => K ((n, rw, b) :: H)

def appK (s : St) (dst : Option Nat) (δ : Delta) (K : St → Prop) : Prop := match s with
  | ⟨T, H⟩ => force3 δ.v fun v => pushH δ.hs H fun H => match dst with
    | some d => K ⟨(d, v) :: T, H⟩
    | none => K ⟨T, H⟩
def putK (s : St) (dst : Option Nat) (v : SV) (K : St → Prop) : Prop := match s with
  | ⟨T, H⟩ => match dst with
    | some d => K ⟨(d, v) :: T, H⟩
    | none => K ⟨T, H⟩

def under (p : Option Prop) (q : Prop) : Prop := match p with
  | none => q
  | some p => p ∧ q

def ifB (c : Bool) (a b : Prop) : Prop := match c with
  | true => a
  | false => b

def dstOf (ops : List Oper) (g : Nat) : Option Nat := match ops[g]? with
  | some o => o.dst
  | none => none

/-- Nothing can be shown here (which kind of thing, at which slot). -/
inductive Bad (kind : Nat) (d : Option Nat) : Prop
theorem Bad.elim {k : Nat} {d : Option Nat} {α : Prop} (h : Bad k d) : α := nomatch h

def stepOp (tt : Types) (S : Tab) (o : Oper) (σ : St) (K : St → Prop) : Prop :=
  match (evOp tt S o).run σ.slot σ.blk with
  | some δ => under δ.ok (appK σ o.dst δ K)
  | none => Bad 1 o.dst

/-- 's == nil' of a whole list: how long the list is. -/
def ndOp (tt : Types) (σ : St) (o : Oper) : Option Nat :=
  match o.op with
  | .binOp .eql t (.tmp a) (.const (.slice none 0 0)) _ => (match σ.slot a, tt t with
    | .vec j, some i => (match i.ty, σ.blk j with
      | some _, some (_, .vec _ xs) => some xs.length
      | _, _ => none)
    | _, _ => none)
  | _ => none

/-- The operations one by one. -/
def goOps (tt : Types) (S : Tab) (all : List Oper) (ops : List Oper) (σ : St) (K : St → Prop) : Prop :=
  match ops with
  | [] => K σ
  | o :: r => match o.guard with
    | none => (match ndOp tt σ o, o.dst with
      | some n, some d => ∀ b : Bool, (b = true → n = 0) → putK σ (some d) (.bool b) fun s => goOps tt S all r s K
      | _, _ => stepOp tt S o σ fun s => goOps tt S all r s K)
    | some (g, want) => match dstOf all g with
      | some t => (match σ.slot t with
        | .bool c => ifB c
          (match want with
            | true => putK σ (some t) (.bool true) fun s => stepOp tt S o s fun s => goOps tt S all r s K
            | false => putK σ (some t) (.bool true) fun s => putK s o.dst noSlot fun s => goOps tt S all r s K)
          (match want with
            | false => putK σ (some t) (.bool false) fun s => stepOp tt S o s fun s => goOps tt S all r s K
            | true => putK σ (some t) (.bool false) fun s => putK s o.dst noSlot fun s => goOps tt S all r s K)
        | .tup [] => putK σ o.dst noSlot fun s => goOps tt S all r s K
        | _ => Bad 2 o.dst)
      | none => Bad 3 o.dst

end Go.Proofs.Ytmflfpedmbfhkaa.Sym
