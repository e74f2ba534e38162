/-
  A law of the program, its arguments opened, and what is said of it.
  No condition.
-/
import Derived.Test.YtmflfpedmbfhkaaSymU
import Derived.WalkKit
import Derived.ProofKit
import Derived.OpenShut
import Derived.ChangeOld
import Derived.Below
import Derived.SizedLaws
namespace Go.Proofs.Ytmflfpedmbfhkaa.Sym
open Go
set_option linter.unusedVariables false
set_option linter.unusedSimpArgs false

def OkAll (P : Program) (w : World) (r : Reach) (base : Nat) : List TypeId → List Value → Prop
  | [], [] => True
  | t :: ts, v :: vs => Cell.okWide P w r base t v ∧ OkAll P w r base ts vs
  | _, _ => False

theorem okAll_of {P : Program} {w : World} {r : Reach} {base : Nat} : ∀ {ts : List TypeId} {vs : List Value}, vs.length = ts.length → (∀ (i : Nat) v, vs[i]? = some v → ∃ u, ts[i]? = some u ∧ Cell.okWide P w r base u v) → OkAll P w r base ts vs
  | [], [], _, _ => trivial
  | t :: ts, v :: vs, hl, h => by
    refine ⟨?_, okAll_of (by simpa using hl) fun i v hv => ?_⟩
    · obtain ⟨u, h1, h2⟩ := h 0 v rfl
      cases h1
      exact h2
    · obtain ⟨u, h1, h2⟩ := h (i + 1) v (by simpa using hv)
      exact ⟨u, by simpa using h1, h2⟩
  | [], _ :: _, hl, _ => by simp at hl
  | _ :: _, [], hl, _ => by simp at hl

def isStruct (P : Program) (t : TypeId) : Bool := match P.underlying t with
  | some (.struct _) => true
  | _ => false

/-- A struct that is handed in: its cells, each of its type. -/
theorem open_struct {P : Program} {w : World} {r : Reach} {base : Nat} {t : TypeId} {v : Value} {ts : List TypeId} (hu : isStruct P t = true) (hc : P.cellTypes P.depth t = some ts) (hn : P.cellsOf t = ts.length) (h : Value.okWide P w r base t v) :
    ∃ vs : List Value, v = .agg vs.toArray ∧ OkAll P w r base ts vs := by
  have h : ∃ cs, v = .agg cs ∧ cs.size = P.cellsOf t ∧ Row.okWide P w r base t cs := by
    unfold isStruct at hu
    split at hu
    · rename_i fs hfs
      simpa only [Value.okWide, hfs] using h
    · cases hu
  obtain ⟨cs, rfl, h2, ts', h3, _, h5⟩ := h
  rw [hc] at h3
  cases h3
  refine ⟨cs.toList, by simp, okAll_of (by simp [h2, hn]) ?_⟩
  intro i v hv
  obtain ⟨u, h6, h7⟩ := h5 i v (by simpa using hv)
  have hlt : i < ts.length := by
    have := (List.getElem?_eq_some_iff.1 hv).1
    simp at this
    omega
  rw [Nat.mod_eq_of_lt hlt] at h6
  exact ⟨u, h6, h7⟩

theorem cell_int {P : Program} {w : World} {r : Reach} {base : Nat} {t : TypeId} {v : Value} {k : IntKind} (hu : P.underlying t = some (.int k)) (h : Cell.okWide P w r base t v) : ∃ n, v = .int k n := by
  simp only [Cell.okWide, hu] at h
  cases v <;> simp_all [Cell.ok]

theorem cell_bool {P : Program} {w : World} {r : Reach} {base : Nat} {t : TypeId} {v : Value} (hu : P.underlying t = some .bool) (h : Cell.okWide P w r base t v) : ∃ b, v = .bool b := by
  simp only [Cell.okWide, hu] at h
  cases v <;> simp_all [Cell.ok]

theorem cell_slice {P : Program} {w : World} {r : Reach} {base : Nat} {t e : TypeId} {v : Value} (hu : P.underlying t = some (.slice e)) (h : Cell.okWide P w r base t v) : ∃ a len cap, v = .slice a len cap := by
  simp only [Cell.okWide, hu] at h
  cases v <;> simp_all [Cell.ok]

theorem cells_ints {P : Program} {w : World} {r : Reach} {base : Nat} (hu : P.underlying 3 = some (.int .i64)) : ∀ {ts : List TypeId} {vs : List Value}, (ts.all fun t => t == 3) = true → OkAll P w r base ts vs → ∃ ns : List Int, ns.length = ts.length ∧ vs = ns.map (Value.int .i64)
  | [], [], _, _ => ⟨[], rfl, rfl⟩
  | t :: ts, v :: vs, ht, h => by
    simp only [List.all_cons, Bool.and_eq_true, beq_iff_eq] at ht
    obtain ⟨rfl, ht⟩ := ht
    obtain ⟨n, rfl⟩ := cell_int hu h.1
    obtain ⟨ns, h1, rfl⟩ := cells_ints hu ht h.2
    exact ⟨n :: ns, by simp [h1], rfl⟩
  | [], _ :: _, _, h => h.elim
  | _ :: _, [], _, h => h.elim

theorem list2 {α : Type} {l : List α} (h : l.length = 2) : ∃ a b, l = [a, b] := by
  match l, h with
  | [a, b], _ => exact ⟨a, b, rfl⟩
theorem list3 {α : Type} {l : List α} (h : l.length = 3) : ∃ a b c, l = [a, b, c] := by
  match l, h with
  | [a, b, c], _ => exact ⟨a, b, c, rfl⟩
theorem list4 {α : Type} {l : List α} (h : l.length = 4) : ∃ a b c d, l = [a, b, c, d] := by
  match l, h with
  | [a, b, c, d], _ => exact ⟨a, b, c, d, rfl⟩
theorem list12 {α : Type} {l : List α} (h : l.length = 12) : ∃ a b c d e f g h i j k m, l = [a, b, c, d, e, f, g, h, i, j, k, m] := by
  match l, h with
  | [a, b, c, d, e, f, g, h, i, j, k, m], _ => exact ⟨a, b, c, d, e, f, g, h, i, j, k, m, rfl⟩

/-- A law answers true, and what was there is as it was. -/
theorem law_ok {P : Program} {f : Nat} {fs : Fs} {args : List SV} {LL LL' : List Ent} {W : World} {env : Env} {us : List Value} (hf : FsOk P f fs) {p : Option Prop} (hev : fs.ev args LL = some (p, .bool true, LL')) (hp : ∀ q, p = some q → q)
    (hh : HRel (fun k => W.heap.size ≤ k) env (ofL LL) W) (hc : conc2s env (ofL LL) args us) : Calls P f us.toArray W fun e W' => e = .returned (.bool true) ∧ RowKit.Below W.heap.size W W' := by
  refine ((hf.sem args LL p _ LL' hev hp).run _ env W us hh (fun k h => h) hc).mono ?_
  rintro e W' ⟨v, env', rfl, _, _, hv, hfr⟩
  have := conc_bool hv
  subst this
  exact ⟨rfl, hfr.os, hfr.tape, hfr.output, hfr.size, fun k hk => hfr.blk k hk (by omega)⟩

theorem hrel_nil {wr : Nat → Prop} {env : Env} {w : World} : HRel wr env (ofL []) w :=
  ⟨fun j r b h => by simp [ofL] at h, fun i j ri bi rj bj _ h => by simp [ofL] at h, fun j b h => by simp [ofL] at h⟩

end Go.Proofs.Ytmflfpedmbfhkaa.Sym
