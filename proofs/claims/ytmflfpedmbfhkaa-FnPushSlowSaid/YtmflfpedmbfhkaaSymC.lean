/-
  The symbolic machine, third part: regions that draw their order, canonical names, code, functions.
  No condition: definitions alone.
-/
import Derived.Test.YtmflfpedmbfhkaaSymB
namespace Go.Proofs.Ytmflfpedmbfhkaa.Sym
open Go
set_option linter.unusedVariables false
set_option linter.unusedSimpArgs false

/-- What an operation touched: the slots and names that it read, the slot and the names that it wrote. -/
structure Foot where
  rs : List Nat
  rn : List Nat
  ws : List Nat
  wn : List Nat

def meets (a b : List Nat) : Bool := a.any fun x => b.any fun y => Nat.beq x y

def Foot.apart (a b : Foot) : Bool :=
  !(meets a.ws b.rs) && !(meets a.ws b.ws) && !(meets a.wn b.rn) && !(meets a.wn b.wn) && !(meets b.ws a.rs) && !(meets b.wn a.rn)

/-- Which operations come surely ahead of each: a list of places for each operation, out of the edges that bind. -/
def aheads (ops : List Oper) (acc : List (List Nat)) : List (List Nat) :=
  match ops with
  | [] => acc
  | o :: r => aheads r (acc ++ [o.after.toList.foldr (fun e s => match Region.binds .any e && Nat.blt e.on acc.length with
    | true => e.on :: ((acc[e.on]?).getD [] ++ s)
    | false => s) []])

/-- The edges that bind lead back. -/
def edgesBack : List Oper → Nat → Bool
  | [], _ => true
  | o :: r, j => (o.after.toList.all fun e => !(Region.binds .any e) || Nat.blt e.on j) && edgesBack r (j + 1)

/-- Every two operations of which neither surely comes first are apart. 'fs': the feet, first to last; 'as': what comes ahead of each. -/
def okFeet (n : Nat) (fs : List Foot) (as : List (List Nat)) : Bool :=
  (List.range n).all fun j => (List.range j).all fun i =>
    match fs[i]?, fs[j]?, as[j]? with
    | some a, some b, some s => (s.any fun x => Nat.beq x i) || a.apart b
    | _, _, _ => false

/-! The same by masks of bits, for the kernel. -/
def forceN {β : Sort 1} (n : Nat) (K : Nat → β) : β := match n with
  | 0 => K 0
  | m + 1 => K (m + 1)
def bitN (x : Nat) : Nat := Nat.shiftLeft 1 x
def tbN (m n : Nat) : Bool := !(Nat.beq (Nat.land 1 (Nat.shiftRight m n)) 0)
def maskL : List Nat → Nat
  | [] => 0
  | x :: r => Nat.lor (bitN x) (maskL r)
structure MF where
  rs : Nat
  rn : Nat
  ws : Nat
  wn : Nat
def mf (f : Foot) : MF := ⟨maskL f.rs, maskL f.rn, maskL f.ws, maskL f.wn⟩
def noneN (a b : Nat) : Bool := Nat.beq (Nat.land a b) 0
def MF.apart (a b : MF) : Bool :=
  noneN a.ws b.rs && noneN a.ws b.ws && noneN a.wn b.rn && noneN a.wn b.wn && noneN b.ws a.rs && noneN b.wn a.rn
def mfs : List Foot → (List MF → Bool) → Bool
  | [], K => K []
  | f :: r, K => forceN (maskL f.rs) fun a => forceN (maskL f.rn) fun b => forceN (maskL f.ws) fun c => forceN (maskL f.wn) fun d => mfs r fun l => K (⟨a, b, c, d⟩ :: l)
def edgesM (es : List Edge) (acc : List Nat) : Nat := es.foldr (fun e s => match Region.binds .any e && Nat.blt e.on acc.length with
  | true => Nat.lor (bitN e.on) (Nat.lor ((acc[e.on]?).getD 0) s)
  | false => s) 0
def aheadsM : List Oper → List Nat → (List Nat → Bool) → Bool
  | [], acc, K => K acc
  | o :: r, acc, K => forceN (edgesM o.after.toList acc) fun m => aheadsM r (acc ++ [m]) K
def okPrev (a : Nat) (f : MF) : List MF → Nat → Bool
  | [], _ => true
  | g :: r, i => (match tbN a i with
    | true => true
    | false => g.apart f) && okPrev a f r (i + 1)
def chkM : List MF → List Nat → List MF → Bool
  | f :: fs, a :: as, prev => okPrev a f prev 0 && chkM fs as (prev ++ [f])
  | [], [], _ => true
  | _, _, _ => false
def fastFeet (n : Nat) (fs : List Foot) (ops : List Oper) : Bool :=
  mfs fs fun ms => aheadsM ops [] fun as => Nat.beq ms.length n && chkM ms as []

def footOf (tt : Types) (S : Tab) (o : Oper) (σ : St) (δ : Delta) (gs : List Nat) : Foot :=
  match (evOp tt S o).reads σ.slot σ.blk with
  | (a, b) => ⟨gs ++ a, b, o.dst.toList, δ.hs.map (·.1)⟩

def stepD (tt : Types) (S : Tab) (o : Oper) (gs : List Nat) (σ : St) (K : St → Foot → Prop) : Prop :=
  match (evOp tt S o).run σ.slot σ.blk with
  | some δ => under δ.ok (appK σ o.dst δ fun s => K s (footOf tt S o σ δ gs))
  | none => Bad 4 o.dst

def goDraw (tt : Types) (S : Tab) (all : List Oper) (ops : List Oper) (σ : St) (fs : List Foot) (K : St → Prop) : Prop :=
  match ops with
  | [] => (match fastFeet all.length fs all && edgesBack all 0 with
    | true => K σ
    | false => Bad 5 none)
  | o :: r => match o.guard with
    | none => stepD tt S o [] σ fun s f => goDraw tt S all r s (fs ++ [f]) K
    | some (g, want) => match dstOf all g with
      | some t => (match σ.slot t with
        | .bool c => ifB c
          (match want with
            | true => putK σ (some t) (.bool true) fun s => stepD tt S o [t] s fun s f => goDraw tt S all r s (fs ++ [f]) K
            | false => putK σ (some t) (.bool true) fun s => putK s o.dst noSlot fun s => goDraw tt S all r s (fs ++ [⟨[t], [], o.dst.toList, []⟩]) K)
          (match want with
            | false => putK σ (some t) (.bool false) fun s => stepD tt S o [t] s fun s f => goDraw tt S all r s (fs ++ [f]) K
            | true => putK σ (some t) (.bool false) fun s => putK s o.dst noSlot fun s => goDraw tt S all r s (fs ++ [⟨[t], [], o.dst.toList, []⟩]) K)
        | .tup [] => putK σ o.dst noSlot fun s => goDraw tt S all r s (fs ++ [⟨[t], [], o.dst.toList, []⟩]) K
        | _ => Bad 2 o.dst)
      | none => Bad 3 o.dst

/-- Canonical names: 'β': which name of the state each is (none: a new one); 'P': blocks of those from m on. -/
structure Can where
  β : List Src
  P : List Ent

def can0 (σ : St) (ct : Option Ty) (c : SV) (z : Can) (k : SV → Can → Option (List SV × List Ent)) : Option (List SV × List Ent) :=
  match c with
  | .vec j => (match posOf j z.β 0 with
    | some i => k (.vec i) z
    | none => match σ.blk j with
      | some (rw, .vec T xs) => k (.vec z.β.length) ⟨z.β ++ [.whole j], z.P ++ [(rw, .vec T xs)]⟩
      | _ => none)
  | .sl j lo n => (match posOf j z.β 0 with
    | some i => k (.sl i lo n) z
    | none => match σ.blk j with
      | some (rw, .vec T xs) => k (.sl z.β.length lo n) ⟨z.β ++ [.whole j], z.P ++ [(rw, .vec T xs)]⟩
      | _ => none)
  | .nilsl => (match ct with
    | some T => k (.vec z.β.length) ⟨z.β ++ [.nil], z.P ++ [(true, .vec T [])]⟩
    | none => k .nilsl z)
  | .int a n => k (.int a n) z
  | .bool b => k (.bool b) z
  | .nilp => k .nilp z
  | .fn f none => k (.fn f none) z
  | _ => none

def can0s (σ : St) (cts : List (Option Ty)) (cs : List SV) (z : Can) (k : List SV → Can → Option (List SV × List Ent)) : Option (List SV × List Ent) :=
  match cs with
  | [] => k [] z
  | c :: r => can0 σ (cts.headD none) c z fun v z => can0s σ cts.tail r z fun vs z => k (v :: vs) z

def canB (σ : St) (cts : List (Option Ty)) (j : Nat) (z : Can) (k : Nat → Can → Option (List SV × List Ent)) : Option (List SV × List Ent) :=
  match posOf j z.β 0 with
  | some i => k i z
  | none => match σ.blk j with
    | some (rw, .box cs) => can0s σ cts cs z fun cs z => (match posOf j z.β 0 with
      | none => k z.β.length ⟨z.β ++ [.whole j], z.P ++ [(rw, .box cs)]⟩
      | some _ => none)
    | some (rw, .vec T xs) => k z.β.length ⟨z.β ++ [.whole j], z.P ++ [(rw, .vec T xs)]⟩
    | _ => none

def can1 (σ : St) (ct : Option Ty) (c : SV) (z : Can) (k : SV → Can → Option (List SV × List Ent)) : Option (List SV × List Ent) :=
  match c with
  | .ptr j e o => canB σ [] j z fun i z => k (.ptr i e o) z
  | .fn f (some j) => canB σ [] j z fun i z => k (.fn f (some i)) z
  | c => can0 σ ct c z k

def can1s (σ : St) (cts : List (Option Ty)) (cs : List SV) (z : Can) (k : List SV → Can → Option (List SV × List Ent)) : Option (List SV × List Ent) :=
  match cs with
  | [] => k [] z
  | c :: r => can1 σ (cts.headD none) c z fun v z => can1s σ cts.tail r z fun vs z => k (v :: vs) z

def can2 (σ : St) (cts : List (Option Ty)) (v : SV) (z : Can) (k : SV → Can → Option (List SV × List Ent)) : Option (List SV × List Ent) :=
  match v with
  | .agg cs => can1s σ cts cs z fun cs z => k (.agg cs) z
  | .ptr j e o => canB σ cts j z fun i z => k (.ptr i e o) z
  | c => can1 σ (cts.headD none) c z k

def can2s (σ : St) (tss : List (List (Option Ty))) (vs : List SV) (z : Can) (k : List SV → Can → Option (List SV × List Ent)) : Option (List SV × List Ent) :=
  match vs with
  | [] => k [] z
  | v :: r => can2 σ (tss.headD []) v z fun v z => can2s σ tss.tail r z fun vs z => k (v :: vs) z

/-- The blocks of the arguments, their cells in canonical names. -/
def canArgs (σ : St) : Nat → Nat → Can → List Ent → (Can → List Ent → Option (List SV × List Ent)) → Option (List SV × List Ent)
  | 0, _, z, A, k => k z A
  | m + 1, j, z, A, k => match σ.blk j with
    | some (rw, .box cs) => can0s σ [] cs z fun cs z => canArgs σ m (j + 1) z (A ++ [(rw, .box cs)]) k
    | some (rw, b) => canArgs σ m (j + 1) z (A ++ [(rw, b)]) k
    | none => none

def canon (σ : St) (m : Nat) (tss : List (List (Option Ty))) (vs : List SV) : Option (List SV × List Ent) :=
  canArgs σ m 0 ⟨(List.range m).map .whole, []⟩ [] fun z A => can2s σ tss vs z fun vs z => match Nat.blt z.β.length 64 with
    | true => some (vs, A ++ z.P)
    | false => none

/-- What is said of a loop: its live slots (with the kinds of lists that may be nil), its states, how they look, what holds of the first one and each, a measure. -/
structure LS where
  S : Type
  live : List (Nat × List (Option Ty))
  shape : S → List SV × List Ent
  get : List SV → List Ent → Option S
  inv : S → S → Prop
  mu : S → Nat
  ok : ∀ v h s, get v h = some s → shape s = (v, h)

def number : List Ent → Nat → List (Nat × Ent)
  | [], _ => []
  | e :: r, n => (n, e) :: number r (n + 1)

def ofShape (live : List (Nat × List (Option Ty))) (x : List SV × List Ent) : St :=
  ⟨(live.map (·.1)).zip x.1, number x.2 0⟩

inductive Ex where
  | normal
  | exit (id : Nat)
  | ret

def firstRegion : Code → Nat
  | .region id _ _ => id
  | .seq a b => match firstRegion a with
    | 0 => firstRegion b
    | n => n
  | .cond _ a b => match firstRegion a with
    | 0 => firstRegion b
    | n => n
  | .block _ b => firstRegion b
  | .loop b => firstRegion b
  | _ => 0

abbrev Loops := Nat → Option LS

def enterLS (σ : St) (m : Nat) (l : LS) (K : l.S → Prop) : Prop :=
  match canon σ m (l.live.map (·.2)) (l.live.map fun x => σ.slot x.1) with
  | some (v, h) => (match l.get v h with
    | some s => K s
    | none => Bad 6 none)
  | none => Bad 7 none

def condOf (σ : St) : Operand → SV
  | .tmp t => σ.slot t
  | .const v => cst v
  | _ => .any

def evP (tt : Types) (S : Tab) (L : Loops) (m : Nat) (c : Code) (σ : St) (K : Ex → St → Prop) : Prop :=
  match c with
  | .skip => K .normal σ
  | .region _ ops draw => match draw with
    | true => goDraw tt S ops.toList ops.toList σ [] (K .normal)
    | false => goOps tt S ops.toList ops.toList σ (K .normal)
  | .seq a b => evP tt S L m a σ fun e s => match e with
    | .normal => evP tt S L m b s K
    | .exit i => K (.exit i) s
    | .ret => K .ret s
  | .cond c x y => match condOf σ c with
    | .bool t => ifB t (evP tt S L m x σ K) (evP tt S L m y σ K)
    | _ => Bad 8 none
  | .block id b => evP tt S L m b σ fun e s => match e with
    | .normal => K .normal s
    | .exit i => (match Nat.beq i id with
      | true => K .normal s
      | false => K (.exit i) s)
    | .ret => K .ret s
  | .loop b => match L (firstRegion b) with
    | some l => enterLS σ m l fun s0 => l.inv s0 s0 ∧ ∀ x, l.inv s0 x → evP tt S L m b (ofShape l.live (l.shape x)) fun e s => match e with
      | .normal => enterLS s m l (fun y => l.inv s0 y ∧ l.mu y < l.mu x)
      | .exit i => K (.exit i) s
      | .ret => K .ret s
    | none => Bad 9 (some (firstRegion b))
  | .exit id => K (.exit id) σ
  | .ret => K .ret σ
  | _ => False

/-- The results of a function: its slots, or what lies behind them. -/
def resOf (tt : Types) (σ : St) : ResultVar → Option (SV × List (Option Ty))
  | .tmp t => some (σ.slot t, [])
  | .cell a t => match tt t, σ.slot a with
    | some i, .ptr j e o => (match (readBlk (σ.blk j) e o i.size i.agg).run σ.slot σ.blk with
      | some δ => some (δ.v, i.cts)
      | none => none)
    | _, _ => none

def resAll (tt : Types) (σ : St) : List ResultVar → List Nat → Option (List SV × List (List (Option Ty)))
  | [], _ => some ([], [])
  | r :: rs, ts => match resOf tt σ r, resAll tt σ rs ts.tail with
    | some (v, _), some (vs, cs) => some (v :: vs, (match tt (ts.headD 0) with
      | some i => i.cts
      | none => []) :: cs)
    | _, _ => none

/-- In a result, a list of the arguments' is a part of it. -/
def asPart (m : Nat) (h : List Ent) (c : SV) : SV := match c with
  | .vec i => (match Nat.blt i m, h[i]? with
    | true, some (_, .vec _ xs) => .sl i 0 xs.length
    | _, _ => .vec i)
  | c => c

def partsBlk (m : Nat) (h : List Ent) : List Ent → List Ent
  | [] => []
  | (rw, .box cs) :: r => (rw, .box (cs.map (asPart m h))) :: partsBlk m h r
  | e :: r => e :: partsBlk m h r

def parts2 (m : Nat) (h : List Ent) (v : SV) : SV := match v with
  | .agg cs => .agg (cs.map (asPart m h))
  | c => asPart m h c

def tupOf : List SV → SV
  | [v] => v
  | vs => .tup vs

def finish (tt : Types) (fn : Func) (m : Nat) (σ : St) (Q : SV → List Ent → Prop) : Prop :=
  match resAll tt σ fn.results.toList fn.resultTypes.toList with
  | some (vs, cs) => (match canon σ m cs vs with
    | some (vs, h) => Q (tupOf (vs.map (parts2 m h))) (h.take m ++ partsBlk m h (h.drop m))
    | none => Bad 10 none)
  | none => Bad 11 none

def startT : List SV → Nat → List (Nat × SV)
  | [], _ => []
  | v :: r, n => (n, v) :: startT r (n + 1)

def dsts (n : Nat) : Code → Bool
  | .region _ ops _ => ops.toList.all fun o => match o.dst with
    | some d => Nat.blt d n
    | none => true
  | .seq a b => dsts n a && dsts n b
  | .cond _ a b => dsts n a && dsts n b
  | .block _ b => dsts n b
  | .loop b => dsts n b
  | _ => true

/-- What is to be shown of a function at given arguments and blocks. -/
def fnVC (tt : Types) (S : Tab) (L : Loops) (fn : Func) (args : List SV) (H : List Ent) (Q : SV → List Ent → Prop) : Prop :=
  match fn.body with
  | some c => match dsts fn.ntmps c && Nat.blt H.length 64 with
    | true => evP tt S L H.length c ⟨startT args 0, number H 0⟩ fun e s => match e with
      | .normal => finish tt fn H.length s Q
      | .ret => finish tt fn H.length s Q
      | .exit _ => False
    | false => False
  | none => False

end Go.Proofs.Ytmflfpedmbfhkaa.Sym
