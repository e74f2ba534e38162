/-
  What symbolic values and blocks say of the model's values and worlds, and what the table of types says of the program's.
  No condition.
-/
import Derived.Test.YtmflfpedmbfhkaaSymC
namespace Go.Proofs.Ytmflfpedmbfhkaa.Sym
open Go
set_option linter.unusedVariables false
set_option linter.unusedSimpArgs false

abbrev Env := Nat → Option Addr × Nat
abbrev Hp := Nat → Option Ent

def svl : SV → Value
  | .int k n => .int k n
  | .bool b => .bool b
  | _ => .tuple #[]

def concC (env : Env) (H : Hp) (c : SV) (v : Value) : Prop :=
  match c with
  | .int k n => v = .int k n
  | .bool b => v = .bool b
  | .nilp => v = .pointer none
  | .ptr j e o => (match H j with
    | some (_, .dead) => v.oneCell' = true
    | some (_, .box _) => ∃ b, (env j).1 = some ⟨b, 0, none⟩ ∧ v = .pointer (some ⟨b, o, none⟩)
    | some (_, .vec T xs) => ∃ b off, (env j).1 = some ⟨b, off, none⟩ ∧ e < xs.length ∧ v = .pointer (some ⟨b, off + e * T.sz + o, none⟩)
    | none => False)
  | .vec j => (match H j with
    | some (_, .dead) => v.oneCell' = true
    | some (_, .vec _ xs) => v = .slice (env j).1 xs.length (env j).2
    | _ => False)
  | .sl j lo n => (match H j with
    | some (_, .dead) => v.oneCell' = true
    | some (_, .vec T xs) => lo + n ≤ xs.length ∧ ∃ x, v = .slice x n ((env j).2 - lo) ∧ ((env j).2 = lo ∨ x = (env j).1.map (·.add (lo * T.sz)))
    | _ => False)
  | .nilsl => ∃ x, v = .slice x 0 0
  | .fn f none => v = .func (.func f) #[] #[]
  | .fn f (some j) => (match H j with
    | some (_, .dead) => v.oneCell' = true
    | some (_, .box _) => ∃ b, (env j).1 = some ⟨b, 0, none⟩ ∧ v = .func (.func f) #[] #[.pointer (some ⟨b, 0, none⟩)]
    | _ => False)
  | .any => True
  | .agg _ => False
  | .tup _ => False

def concCs (env : Env) (H : Hp) : List SV → List Value → Prop
  | [], [] => True
  | c :: cs, v :: vs => concC env H c v ∧ concCs env H cs vs
  | _, _ => False

def conc2 (env : Env) (H : Hp) (c : SV) (v : Value) : Prop :=
  match c with
  | .agg cs => ∃ vs, v = .agg vs ∧ concCs env H cs vs.toList
  | c => concC env H c v

def conc2s (env : Env) (H : Hp) : List SV → List Value → Prop
  | [], [] => True
  | c :: cs, v :: vs => conc2 env H c v ∧ conc2s env H cs vs
  | _, _ => False

def conc (env : Env) (H : Hp) (c : SV) (v : Value) : Prop :=
  match c with
  | .tup cs => ∃ vs, v = .tuple vs ∧ conc2s env H cs vs.toList
  | c => conc2 env H c v

/-- The cells of a list lie in a block from a place on. -/
def Lies (T : Ty) (xs : List T.El) (vs : Array Value) (off : Nat) : Prop :=
  ∀ e, e < xs.length → ∀ o, o < T.sz → vs[off + e * T.sz + o]? = some (svl ((T.enc (T.ix xs e)).getD o .any))

def blkRel (env : Env) (H : Hp) (j : Nat) (rw : Bool) (b : Blk) (w : World) : Prop :=
  match b with
  | .box cs => ∃ b E vs fz, (env j).1 = some ⟨b, 0, none⟩ ∧ w.heap[b]? = some (.cells vs E fz) ∧ concCs env H cs vs.toList ∧ (rw = true → fz = (0, 0))
  | .vec T xs => xs.length ≤ (env j).2 ∧ ((env j).2 = 0 ∨ ∃ b off E vs fz, (env j).1 = some ⟨b, off, none⟩ ∧ w.heap[b]? = some (.cells vs E fz) ∧
      off + (env j).2 * T.sz ≤ vs.size ∧ Lies T xs vs off ∧ (rw = true → fz = (0, 0)))
  | .dead => True

/-- The block that a name owns. -/
def own (env : Env) (j : Nat) (b : Blk) : Option Nat :=
  match b with
  | .box _ => (env j).1.map (·.block)
  | .vec _ _ => if (env j).2 = 0 then none else (env j).1.map (·.block)
  | .dead => none

structure HRel (wr : Nat → Prop) (env : Env) (H : Hp) (w : World) : Prop where
  blk : ∀ j rw b, H j = some (rw, b) → blkRel env H j rw b w
  dj : ∀ i j ri bi rj bj, i ≠ j → H i = some (ri, bi) → H j = some (rj, bj) → (ri = true ∨ rj = true) → ∀ x, own env i bi = some x → own env j bj = some x → False
  wrt : ∀ j b, H j = some (true, b) → ∀ x, own env j b = some x → wr x

/-- Behind a stretch of code: what may not be written is as it was. -/
structure Fr (wr : Nat → Prop) (w0 w : World) : Prop where
  os : w.os = w0.os
  tape : w.tape = w0.tape
  output : w.output = w0.output
  size : w0.heap.size ≤ w.heap.size
  blk : ∀ k, k < w0.heap.size → ¬ wr k → w.heap[k]? = w0.heap[k]?

theorem Fr.refl (wr : Nat → Prop) (w : World) : Fr wr w w := ⟨rfl, rfl, rfl, Nat.le_refl _, fun _ _ _ => rfl⟩

theorem Fr.trans {wr : Nat → Prop} {a b c : World} (h : Fr wr a b) (k : Fr wr b c) : Fr wr a c :=
  ⟨k.os.trans h.os, k.tape.trans h.tape, k.output.trans h.output, Nat.le_trans h.size k.size, fun i hi hw => (k.blk i (Nat.lt_of_lt_of_le hi h.size) hw).trans (h.blk i hi hw)⟩

theorem Fr.weaken {wr wr' : Nat → Prop} {a b : World} (h : Fr wr a b) (hw : ∀ k, k < a.heap.size → wr k → wr' k) : Fr wr' a b :=
  ⟨h.os, h.tape, h.output, h.size, fun k hk hn => h.blk k hk fun x => hn (hw k hk x)⟩

structure Rel (n : Nat) (wr : Nat → Prop) (w0 : World) (env : Env) (T : Nat → SV) (H : Hp) (a : Act) (w : World) : Prop where
  defers : a.defers = []
  size : n ≤ a.tmps.size
  slots : ∀ d, conc env H (T d) (a.tmps.getD d undef)
  heap : HRel wr env H w
  fr : Fr wr w0 w
  new : ∀ k, w0.heap.size ≤ k → wr k

/-- How a block may change under those who name it. -/
def stays (b b' : Blk) : Prop :=
  match b, b' with
  | _, .dead => True
  | .box _, .box _ => True
  | .vec T xs, .vec U ys => T = U ∧ xs.length = ys.length
  | _, _ => False

theorem stays_refl (b : Blk) : stays b b := by cases b <;> simp [stays]

structure Ext (env : Env) (H : Hp) (env' : Env) (H' : Hp) : Prop where
  same : ∀ j r b, H j = some (r, b) → env' j = env j ∧ ∃ r' b', H' j = some (r', b') ∧ stays b b'

theorem Ext.refl (env : Env) (H : Hp) : Ext env H env H := ⟨fun j r b h => ⟨rfl, r, b, h, stays_refl b⟩⟩

theorem stays_trans {a b c : Blk} (h : stays a b) (k : stays b c) : stays a c := by
  cases a <;> cases b <;> cases c <;> simp_all [stays]

theorem Ext.trans {e1 e2 e3 : Env} {H1 H2 H3 : Hp} (h : Ext e1 H1 e2 H2) (k : Ext e2 H2 e3 H3) : Ext e1 H1 e3 H3 :=
  ⟨fun j r b hj => by
    obtain ⟨he, r', b', hj', hs⟩ := h.same j r b hj
    obtain ⟨he', r'', b'', hj'', hs'⟩ := k.same j r' b' hj'
    exact ⟨he'.trans he, r'', b'', hj'', stays_trans hs hs'⟩⟩

theorem concC_one {env : Env} {H : Hp} {c : SV} {v : Value} (h : concC env H c v) (hc : c ≠ .any) : v.oneCell' = true := by
  cases c with
  | any => exact absurd rfl hc
  | agg cs => exact h.elim
  | tup cs => exact h.elim
  | fn f cap =>
    cases cap with
    | none => simp only [concC] at h; rw [h]; rfl
    | some j =>
      simp only [concC] at h
      split at h
      · exact h
      · obtain ⟨b, _, e⟩ := h; rw [e]; rfl
      · exact h.elim
  | ptr j e o =>
    simp only [concC] at h
    split at h
    · exact h
    · obtain ⟨b, _, e⟩ := h; rw [e]; rfl
    · obtain ⟨b, off, _, _, e⟩ := h; rw [e]; rfl
    · exact h.elim
  | vec j =>
    simp only [concC] at h
    split at h
    · exact h
    · rw [h]; rfl
    · exact h.elim
  | sl j lo n =>
    simp only [concC] at h
    split at h
    · exact h
    · obtain ⟨_, x, e, _⟩ := h; rw [e]; rfl
    · exact h.elim
  | nilsl => obtain ⟨x, e⟩ := h; rw [e]; rfl
  | _ => simp only [concC] at h; rw [h]; rfl

theorem concC_ext {env env' : Env} {H H' : Hp} (x : Ext env H env' H') {c : SV} {v : Value} (h : concC env H c v) : concC env' H' c v := by
  have h1 := concC_one h
  cases c with
  | ptr j e o =>
    have h1 := h1 (by simp)
    simp only [concC] at h ⊢
    cases hj : H j with
    | none => simp [hj] at h
    | some p =>
      obtain ⟨r, b⟩ := p
      obtain ⟨he, r', b', hj', hs⟩ := x.same j r b hj
      rw [hj', he]
      rw [hj] at h
      cases b <;> cases b' <;> simp only [stays] at hs <;> first | exact h1 | exact h | skip
      obtain ⟨rfl, hl⟩ := hs
      simp only at h ⊢
      rw [← hl]
      exact h
  | vec j =>
    have h1 := h1 (by simp)
    simp only [concC] at h ⊢
    cases hj : H j with
    | none => simp [hj] at h
    | some p =>
      obtain ⟨r, b⟩ := p
      obtain ⟨he, r', b', hj', hs⟩ := x.same j r b hj
      rw [hj', he]
      rw [hj] at h
      cases b <;> cases b' <;> simp only [stays] at hs <;> first | exact h1 | exact h | skip
      obtain ⟨rfl, hl⟩ := hs
      simp only at h ⊢
      rw [← hl]
      exact h
  | sl j lo n =>
    have h1 := h1 (by simp)
    simp only [concC] at h ⊢
    cases hj : H j with
    | none => simp [hj] at h
    | some p =>
      obtain ⟨r, b⟩ := p
      obtain ⟨he, r', b', hj', hs⟩ := x.same j r b hj
      rw [hj', he]
      rw [hj] at h
      cases b <;> cases b' <;> simp only [stays] at hs <;> first | exact h1 | exact h | skip
      obtain ⟨rfl, hl⟩ := hs
      simp only at h ⊢
      rw [← hl]
      exact h
  | fn f cap =>
    cases cap with
    | none => exact h
    | some j =>
      have h1 := h1 (by simp)
      simp only [concC] at h ⊢
      cases hj : H j with
      | none => simp [hj] at h
      | some p =>
        obtain ⟨r, b⟩ := p
        obtain ⟨he, r', b', hj', hs⟩ := x.same j r b hj
        rw [hj', he]
        rw [hj] at h
        cases b <;> cases b' <;> simp only [stays] at hs <;> first | exact h1 | exact h
  | _ => exact h

theorem concCs_ext {env env' : Env} {H H' : Hp} (x : Ext env H env' H') : ∀ {cs : List SV} {vs : List Value}, concCs env H cs vs → concCs env' H' cs vs
  | [], [], h => h
  | _ :: _, _ :: _, h => ⟨concC_ext x h.1, concCs_ext x h.2⟩

theorem conc2_ext {env env' : Env} {H H' : Hp} (x : Ext env H env' H') {c : SV} {v : Value} (h : conc2 env H c v) : conc2 env' H' c v := by
  cases c <;> simp only [conc2] at h ⊢ <;> first | exact concC_ext x h | (obtain ⟨vs, e, h⟩ := h; exact ⟨vs, e, concCs_ext x h⟩)

theorem conc2s_ext {env env' : Env} {H H' : Hp} (x : Ext env H env' H') : ∀ {cs : List SV} {vs : List Value}, conc2s env H cs vs → conc2s env' H' cs vs
  | [], [], h => h
  | _ :: _, _ :: _, h => ⟨conc2_ext x h.1, conc2s_ext x h.2⟩

theorem conc_ext {env env' : Env} {H H' : Hp} (x : Ext env H env' H') {c : SV} {v : Value} (h : conc env H c v) : conc env' H' c v := by
  cases c <;> simp only [conc] at h ⊢ <;> first | exact conc2_ext x h | (obtain ⟨vs, e, h⟩ := h; exact ⟨vs, e, conc2s_ext x h⟩)

def updT (T : Nat → SV) (dst : Option Nat) (v : SV) : Nat → SV := fun d => match dst with
  | some t => (match Nat.beq t d with
    | true => v
    | false => T d)
  | none => T d
def updH (H : Hp) (hs : List (Nat × Ent)) : Hp := fun n => match look hs n with
  | some e => some e
  | none => H n

theorem Rel.put {n : Nat} {wr : Nat → Prop} {w0 : World} {env env' : Env} {T : Nat → SV} {H H' : Hp} {a : Act} {w w' : World} (h : Rel n wr w0 env T H a w)
    (x : Ext env H env' H') (hh : HRel wr env' H' w') (hf : Fr wr w w') {dst : Option Nat} (hd : ∀ d, dst = some d → d < n) {v : SV} {u : Value} (hc : conc env' H' v u) :
    Rel n wr w0 env' (updT T dst v) H' (a.put dst u) w' := by
  refine ⟨?_, ?_, ?_, hh, h.fr.trans hf, h.new⟩
  · cases dst <;> exact h.defers
  · cases dst <;> simp [Act.put] <;> exact h.size
  · intro d
    cases dst with
    | none => exact conc_ext x (h.slots d)
    | some t =>
      have ht := hd t rfl
      have hs := h.size
      simp only [updT, Act.put]
      cases e : Nat.beq t d with
      | true =>
        have : t = d := Nat.eq_of_beq_eq_true e
        subst this
        simp only
        rw [Array.getD_eq_getD_getElem?, Array.getElem?_setIfInBounds_self_of_lt (by omega)]
        exact hc
      | false =>
        have : t ≠ d := fun q => by subst q; simp at e
        simp only
        rw [Array.getD_eq_getD_getElem?, Array.getElem?_setIfInBounds_ne this, ← Array.getD_eq_getD_getElem?]
        exact conc_ext x (h.slots d)

/-! ### The table of types -/

def zeroFits : List SV → List Value → Bool
  | [], [] => true
  | .int k n :: r, .int j m :: s => k == j && n == m && zeroFits r s
  | .bool b :: r, .bool c :: s => b == c && zeroFits r s
  | .nilp :: r, .pointer none :: s => zeroFits r s
  | .nilsl :: r, .slice _ 0 0 :: s => zeroFits r s
  | _, _ => false

def tyOfDesc (P : Program) (E : Nat) (T : Ty) : Bool := (P.info? E).any fun i => i.size == T.sz

/-- The kinds of the cells of a type of whole numbers and bools (none: a bool); fields one behind the other, none hidden by '_'. -/
def flatFs (P : Program) (g : Nat → Option (List (Option IntKind))) : List Field → List (Option IntKind) → Option (List (Option IntKind))
  | [], acc => some acc
  | f :: r, acc => if f.name ≠ "_" ∧ f.offset = acc.length then (match g f.type with
      | some ks => if P.cellsOf f.type = ks.length ∧ 0 < ks.length then flatFs P g r (acc ++ ks) else none
      | none => none)
    else none

def flatK (P : Program) : Nat → Nat → Option (List (Option IntKind))
  | 0, _ => none
  | d + 1, t => match P.underlying t with
    | some (.int k) => some [some k]
    | some .bool => some [none]
    | some (.struct fs) => if P.stoodInHeld t = true then none else flatFs P (flatK P d) fs.toList []
    | _ => none

def kindsOf : List SV → List (Option IntKind)
  | [] => []
  | .int k _ :: r => some k :: kindsOf r
  | _ :: r => none :: kindsOf r

def zNilsl : List SV → Bool
  | [.nilsl] => true
  | _ => false
def zInt : List SV → Bool
  | [.int _ _] => true
  | _ => false
def zBool : List SV → Bool
  | [.bool _] => true
  | _ => false
def zNilp : List SV → Bool
  | [.nilp] => true
  | _ => false

def typeOk (P : Program) (t : Nat) (i : TI) : Bool :=
  match P.info? t, P.underlying t with
  | some n, some u => n.size == i.size && n.bytes == i.bytes && i.zero.length == i.size &&
      (match n.zero with
        | some z => zeroFits i.zero z.cells.toList && (match z with
          | .agg _ => i.agg
          | _ => !i.agg)
        | none => false) &&
      (match u with
        | .struct fs => i.agg && (fs.toList.map fun f => (f.offset, P.cellsOf f.type)) == i.fields && fs.toList.all (fun f => 0 < P.cellsOf f.type && P.info? f.type matches some _) && i.ty.isNone && i.kind.isNone &&
            (!i.flat || (flatK P 6 t == some (kindsOf i.zero) && !P.eqGuardType P.depth t))
        | .slice e => !i.agg && i.elem == e && (match i.ty with
            | some T => tyOfDesc P e T
            | none => false) && i.kind.isNone && i.fields.isEmpty && !i.flat && zNilsl i.zero
        | .int k => !i.agg && i.kind == some k && i.ty.isNone && i.fields.isEmpty && !i.flat && zInt i.zero
        | .bool => !i.agg && i.kind.isNone && i.ty.isNone && i.fields.isEmpty && !i.flat && zBool i.zero
        | .pointer _ => !i.agg && i.kind.isNone && i.ty.isNone && i.fields.isEmpty && !i.flat && zNilp i.zero
        | _ => false)
  | _, _ => false

def typesOk (P : Program) (l : List (Nat × TI)) : Bool := l.all fun (t, i) => typeOk P t i

theorem look_mem {α : Type} : ∀ {l : List (Nat × α)} {d : Nat} {x : α}, look l d = some x → (d, x) ∈ l
  | (n, y) :: r, d, x, h => by
    unfold look at h
    cases e : Nat.beq n d with
    | true =>
      have hn : n = d := Nat.eq_of_beq_eq_true e
      simp only [e] at h
      cases h
      subst hn
      exact List.mem_cons_self
    | false =>
      simp only [e] at h
      exact List.mem_cons_of_mem _ (look_mem h)

/-- The table says of each type what the program says. -/
def TabOk (P : Program) (tt : Types) : Prop := ∀ t i, tt t = some i → typeOk P t i = true

theorem tabOk_of {P : Program} {l : List (Nat × TI)} (h : typesOk P l = true) : TabOk P (look l) := fun t i hi => by
  have := List.all_eq_true.1 h _ (look_mem hi)
  exact this

end Go.Proofs.Ytmflfpedmbfhkaa.Sym
