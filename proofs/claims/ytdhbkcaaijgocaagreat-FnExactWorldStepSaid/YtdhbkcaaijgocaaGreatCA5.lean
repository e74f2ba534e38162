/-
  What the rows of this claim stand on, part 5: the machine, the walks, the plain laws, as far as they are used.
  No condition.
-/
import Derived.Test.YtdhbkcaaijgocaaGreatCA4
import Derived.WalkKit
import Derived.ProofKit
import Derived.OpenShut
import Derived.ChangeOld
import Derived.Below
import Derived.SizedLaws
namespace Go.Proofs.YtdhbkcaaijgocaaGreat.Sym
open Go
set_option linter.unusedVariables false
set_option linter.unusedSimpArgs false

def OkAll (P : Program) (w : World) (r : Reach) (base : Nat) : List TypeId → List Value → Prop
  | [], [] => True
  | t :: ts, v :: vs => Cell.okWide P w r base t v ∧ OkAll P w r base ts vs
  | _, _ => False

theorem okAll_of {P : Program} {w : World} {r : Reach} {base : Nat} : ∀ {ts : List TypeId} {vs : List Value}, vs.length = ts.length → (∀ (i : Nat) v, vs[i]? = some v → ∃ u, ts[i]? = some u ∧ Cell.okWide P w r base u v) → OkAll P w r base ts vs
  | [], [], _, _ => trivial
  | t :: ts, v :: vs, hl, h => by
    refine ⟨?_, okAll_of (by simpa using hl) fun i v hv => ?_⟩
    · obtain ⟨u, h1, h2⟩ := h 0 v rfl
      cases h1
      exact h2
    · obtain ⟨u, h1, h2⟩ := h (i + 1) v (by simpa using hv)
      exact ⟨u, by simpa using h1, h2⟩
  | [], _ :: _, hl, _ => by simp at hl
  | _ :: _, [], hl, _ => by simp at hl

def isStruct (P : Program) (t : TypeId) : Bool := match P.underlying t with
  | some (.struct _) => true
  | _ => false

/-- A struct that is handed in: its cells, each of its type. -/
theorem open_struct {P : Program} {w : World} {r : Reach} {base : Nat} {t : TypeId} {v : Value} {ts : List TypeId} (hu : isStruct P t = true) (hc : P.cellTypes P.depth t = some ts) (hn : P.cellsOf t = ts.length) (h : Value.okWide P w r base t v) :
    ∃ vs : List Value, v = .agg vs.toArray ∧ OkAll P w r base ts vs := by
  have h : ∃ cs, v = .agg cs ∧ cs.size = P.cellsOf t ∧ Row.okWide P w r base t cs := by
    unfold isStruct at hu
    split at hu
    · rename_i fs hfs
      simpa only [Value.okWide, hfs] using h
    · cases hu
  obtain ⟨cs, rfl, h2, ts', h3, _, h5⟩ := h
  rw [hc] at h3
  cases h3
  refine ⟨cs.toList, by simp, okAll_of (by simp [h2, hn]) ?_⟩
  intro i v hv
  obtain ⟨u, h6, h7⟩ := h5 i v (by simpa using hv)
  have hlt : i < ts.length := by
    have := (List.getElem?_eq_some_iff.1 hv).1
    simp at this
    omega
  rw [Nat.mod_eq_of_lt hlt] at h6
  exact ⟨u, h6, h7⟩

theorem cell_int {P : Program} {w : World} {r : Reach} {base : Nat} {t : TypeId} {v : Value} {k : IntKind} (hu : P.underlying t = some (.int k)) (h : Cell.okWide P w r base t v) : ∃ n, v = .int k n := by
  simp only [Cell.okWide, hu] at h
  cases v <;> simp_all [Cell.ok]

theorem cell_bool {P : Program} {w : World} {r : Reach} {base : Nat} {t : TypeId} {v : Value} (hu : P.underlying t = some .bool) (h : Cell.okWide P w r base t v) : ∃ b, v = .bool b := by
  simp only [Cell.okWide, hu] at h
  cases v <;> simp_all [Cell.ok]

theorem cell_slice {P : Program} {w : World} {r : Reach} {base : Nat} {t e : TypeId} {v : Value} (hu : P.underlying t = some (.slice e)) (h : Cell.okWide P w r base t v) : ∃ a len cap, v = .slice a len cap := by
  simp only [Cell.okWide, hu] at h
  cases v <;> simp_all [Cell.ok]

theorem cells_ints {P : Program} {w : World} {r : Reach} {base : Nat} (hu : P.underlying 3 = some (.int .i64)) : ∀ {ts : List TypeId} {vs : List Value}, (ts.all fun t => t == 3) = true → OkAll P w r base ts vs → ∃ ns : List Int, ns.length = ts.length ∧ vs = ns.map (Value.int .i64)
  | [], [], _, _ => ⟨[], rfl, rfl⟩
  | t :: ts, v :: vs, ht, h => by
    simp only [List.all_cons, Bool.and_eq_true, beq_iff_eq] at ht
    obtain ⟨rfl, ht⟩ := ht
    obtain ⟨n, rfl⟩ := cell_int hu h.1
    obtain ⟨ns, h1, rfl⟩ := cells_ints hu ht h.2
    exact ⟨n :: ns, by simp [h1], rfl⟩
  | [], _ :: _, _, h => h.elim
  | _ :: _, [], _, h => h.elim

theorem list2 {α : Type} {l : List α} (h : l.length = 2) : ∃ a b, l = [a, b] := by
  match l, h with
  | [a, b], _ => exact ⟨a, b, rfl⟩
theorem list3 {α : Type} {l : List α} (h : l.length = 3) : ∃ a b c, l = [a, b, c] := by
  match l, h with
  | [a, b, c], _ => exact ⟨a, b, c, rfl⟩
theorem list4 {α : Type} {l : List α} (h : l.length = 4) : ∃ a b c d, l = [a, b, c, d] := by
  match l, h with
  | [a, b, c, d], _ => exact ⟨a, b, c, d, rfl⟩
theorem list12 {α : Type} {l : List α} (h : l.length = 12) : ∃ a b c d e f g h i j k m, l = [a, b, c, d, e, f, g, h, i, j, k, m] := by
  match l, h with
  | [a, b, c, d, e, f, g, h, i, j, k, m], _ => exact ⟨a, b, c, d, e, f, g, h, i, j, k, m, rfl⟩

/-- A law answers true, and what was there is as it was. -/
theorem law_ok {P : Program} {f : Nat} {fs : Fs} {args : List SV} {LL LL' : List Ent} {W : World} {env : Env} {us : List Value} (hf : FsOk P f fs) {p : Option Prop} (hev : fs.ev args LL = some (p, .bool true, LL')) (hp : ∀ q, p = some q → q)
    (hh : HRel (fun k => W.heap.size ≤ k) env (ofL LL) W) (hc : conc2s env (ofL LL) args us) : Calls P f us.toArray W fun e W' => e = .returned (.bool true) ∧ RowKit.Below W.heap.size W W' := by
  refine ((hf.sem args LL p _ LL' hev hp).run _ env W us hh (fun k h => h) hc).mono ?_
  rintro e W' ⟨v, env', rfl, _, _, hv, hfr⟩
  have := conc_bool hv
  subst this
  exact ⟨rfl, hfr.os, hfr.tape, hfr.output, hfr.size, fun k hk => hfr.blk k hk (by omega)⟩

theorem hrel_nil {wr : Nat → Prop} {env : Env} {w : World} : HRel wr env (ofL []) w :=
  ⟨fun j r b h => by simp [ofL] at h, fun i j ri bi rj bj _ h => by simp [ofL] at h, fun j b h => by simp [ofL] at h⟩

end Go.Proofs.YtdhbkcaaijgocaaGreat.Sym

namespace Go.Proofs.YtdhbkcaaijgocaaGreat.Sym
open Go
set_option linter.unusedVariables false
set_option linter.unusedSimpArgs false

/-- Cells of whole numbers and bools, of the kinds said. -/
def FlatV : List (Option IntKind) → List Value → Prop
  | [], [] => True
  | some k :: ks, .int k' n :: vs => k' = k ∧ (Lit.int k n).wf = true ∧ FlatV ks vs
  | none :: ks, .bool _ :: vs => FlatV ks vs
  | _, _ => False

theorem FlatV.length : ∀ {ks : List (Option IntKind)} {vs : List Value}, FlatV ks vs → vs.length = ks.length
  | [], [], _ => rfl
  | some k :: ks, .int k' n :: vs, h => by simp [FlatV.length h.2.2]
  | none :: ks, .bool b :: vs, h => by simp [FlatV.length (ks := ks) (vs := vs) h]

theorem FlatV.append : ∀ {k1 k2 : List (Option IntKind)} {v1 v2 : List Value}, FlatV k1 v1 → FlatV k2 v2 → FlatV (k1 ++ k2) (v1 ++ v2)
  | [], k2, [], v2, _, h => h
  | some k :: ks, k2, .int k' n :: vs, v2, h1, h2 => ⟨h1.1, h1.2.1, FlatV.append h1.2.2 h2⟩
  | none :: ks, k2, .bool b :: vs, v2, h1, h2 => FlatV.append (k1 := ks) (v1 := vs) h1 h2

section
variable {H : Type} {enc : TypeId × Value → H} {P : Program} {w : World} {base : Nat} {spare : Nat → Bool} {held : Bool}

theorem trod_flat : ∀ (d : Nat) (t : Nat) (ks : List (Option IntKind)), flatK P d t = some ks → ∀ (fuel : Nat) (cs : List Value) x, DataW.trod enc P w base spare held fuel t cs = some x →
    (∀ u, P.underlying t = some u → aggDesc u = true → P.cellsOf t = ks.length) → FlatV ks cs
  | 0, t, ks, hk, _, _, _, _, _ => by simp [flatK] at hk
  | d + 1, t, ks, hk, 0, cs, x, h, _ => by simp [DataW.trod] at h
  | d + 1, t, ks, hk, fuel + 1, cs, x, h, hC => by
    simp only [flatK] at hk
    split at hk
    · rename_i k hu
      cases hk
      simp only [DataW.trod, hu] at h
      split at h <;> simp_all [FlatV]
    · rename_i hu
      cases hk
      simp only [DataW.trod, hu] at h
      split at h <;> simp_all [FlatV]
    · rename_i fs hu
      split at hk
      · cases hk
      have hC := hC _ hu rfl
      simp only [DataW.trod, hu] at h
      split at h
      case isFalse => cases h
      rename_i hlen
      simp only [Option.map_eq_some_iff] at h
      obtain ⟨ys, hys, _⟩ := h
      have each : ∀ f ∈ fs.toList, ∃ y, DataW.trod enc P w base spare held fuel f.type ((cs.drop f.offset).take (P.cellsOf f.type)) = some y := fun f hf => by
        have hys' : List.mapM (fun f : Field => DataW.trod enc P w base spare held fuel f.type ((cs.drop f.offset).take (P.cellsOf f.type))) fs.toList = some ys := hys
        exact WideShapes.mapM_each hys' f hf
      have go : ∀ (l : List Field) (acc ks : List (Option IntKind)), (∀ f ∈ l, f ∈ fs.toList) → flatFs P (flatK P d) l acc = some ks → ks.length ≤ cs.length → FlatV acc (cs.take acc.length) → FlatV ks (cs.take ks.length) := by
        intro l
        induction l with
        | nil => intro acc ks _ h _ ha; cases h; exact ha
        | cons f r ih =>
          intro acc ks hm h hl ha
          simp only [flatFs] at h
          split at h
          case isFalse => cases h
          rename_i hcond
          split at h
          case h_2 => cases h
          rename_i kf hkf
          split at h
          case isFalse => cases h
          rename_i hsz
          have hmono : ∀ (l : List Field) (acc ks : List (Option IntKind)), flatFs P (flatK P d) l acc = some ks → acc.length ≤ ks.length := by
            intro l
            induction l with
            | nil => intro acc ks h; cases h; exact Nat.le_refl _
            | cons f r ih =>
              intro acc ks h
              simp only [flatFs] at h
              split at h
              case isFalse => cases h
              split at h
              case h_2 => cases h
              split at h
              case isFalse => cases h
              have := ih _ _ h
              simp at this
              omega
          have hm1 := hmono r _ _ h
          simp only [List.length_append] at hm1
          refine ih (acc ++ kf) ks (fun g hg => hm g (List.mem_cons_of_mem _ hg)) h hl ?_
          obtain ⟨y, hy⟩ := each f (hm f List.mem_cons_self)
          have hf := trod_flat d f.type kf hkf fuel _ y hy (fun _ _ _ => hsz.1)
          rw [List.length_append, List.take_add]
          refine ha.append ?_
          rw [← hcond.2, ← hsz.1]
          exact hf
      have := go fs.toList [] ks (fun f hf => hf) hk (by omega) trivial
      rwa [List.take_of_length_le (by omega)] at this
    · cases hk

/-- All whole numbers are of their kind's size. -/
def fits : SV → Bool
  | .int k n => (Lit.int k n).wf
  | _ => true

theorem flat_ints {k : IntKind} : ∀ {n : Nat} {cs : List Value}, FlatV (List.replicate n (some k)) cs → ∃ ns : List Int, ns.length = n ∧ cs = ns.map (Value.int k) ∧ ∀ m ∈ ns, (Lit.int k m).wf = true
  | 0, [], _ => ⟨[], rfl, rfl, fun m h => by cases h⟩
  | n + 1, .int k' m :: cs, h => by
    obtain ⟨rfl, h2, h3⟩ := h
    obtain ⟨ns, l, e, w⟩ := flat_ints (n := n) (cs := cs) h3
    refine ⟨m :: ns, by simp [l], by simp [e], ?_⟩
    intro q hq
    rcases List.mem_cons.1 hq with rfl | hq
    · exact h2
    · exact w q hq

theorem list1 {α : Type} {l : List α} (h : l.length = 1) : ∃ a, l = [a] := by
  match l, h with
  | [a], _ => exact ⟨a, rfl⟩
theorem list5 {α : Type} {l : List α} (h : l.length = 5) : ∃ a b c d e, l = [a, b, c, d, e] := by
  match l, h with
  | [a, b, c, d, e], _ => exact ⟨a, b, c, d, e, rfl⟩

theorem dec_flat (U : Ty) {cs : List Value} (h : FlatV (kindsOf (U.enc U.dft)) cs) : ∃ x : U.El, cs = (U.enc x).map svl ∧ ∀ c ∈ U.enc x, fits c = true := by
  cases U with
  | int =>
    obtain ⟨ns, l, rfl, w⟩ := flat_ints (k := .i64) (n := 1) h
    obtain ⟨a, rfl⟩ := list1 l
    exact ⟨a, rfl, by simpa [Ty.enc, fits] using w⟩
  | byte =>
    obtain ⟨ns, l, rfl, w⟩ := flat_ints (k := .u8) (n := 1) h
    obtain ⟨a, rfl⟩ := list1 l
    exact ⟨a, rfl, by simpa [Ty.enc, fits] using w⟩
  | bool =>
    match cs, h with
    | [.bool b], _ => exact ⟨b, rfl, by simp [Ty.enc, fits]⟩
  | vec =>
    obtain ⟨ns, l, rfl, w⟩ := flat_ints (k := .i64) (n := 2) h
    obtain ⟨a, b, rfl⟩ := list2 l
    exact ⟨⟨a, b⟩, rfl, by simpa [Ty.enc, fits] using w⟩
  | item =>
    obtain ⟨ns, l, rfl, w⟩ := flat_ints (k := .i64) (n := 5) h
    obtain ⟨a, b, c, d, e, rfl⟩ := list5 l
    exact ⟨⟨a, ⟨⟨b, c⟩, ⟨d, e⟩⟩⟩, rfl, by simpa [Ty.enc, fits] using w⟩
  | pair =>
    obtain ⟨ns, l, rfl, w⟩ := flat_ints (k := .i64) (n := 2) h
    obtain ⟨a, b, rfl⟩ := list2 l
    exact ⟨⟨a, b⟩, rfl, by simpa [Ty.enc, fits] using w⟩
  | hit =>
    obtain ⟨ns, l, rfl, w⟩ := flat_ints (k := .i64) (n := 3) h
    obtain ⟨a, b, c, rfl⟩ := list3 l
    exact ⟨⟨⟨a, b⟩, c⟩, rfl, by simpa [Ty.enc, fits] using w⟩
  | contact =>
    obtain ⟨ns, l, rfl, w⟩ := flat_ints (k := .i64) (n := 5) h
    obtain ⟨a, b, c, d, e, rfl⟩ := list5 l
    exact ⟨⟨a, b, ⟨⟨c, d⟩, e⟩⟩, rfl, by simpa [Ty.enc, fits] using w⟩
  | event =>
    match cs, h with
    | .bool b :: cs, h =>
      obtain ⟨ns, l, rfl, w⟩ := flat_ints (k := .i64) (n := 2) (cs := cs) h
      obtain ⟨c, d, rfl⟩ := list2 l
      exact ⟨⟨b, ⟨c, d⟩⟩, rfl, by simpa [Ty.enc, fits] using w⟩
  | body =>
    obtain ⟨ns, l, rfl, w⟩ := flat_ints (k := .i64) (n := 12) h
    obtain ⟨a, b, c, d, e, f, g, q, i, j, k, m, rfl⟩ := list12 l
    exact ⟨⟨a, ⟨b, c, d⟩, ⟨e, f⟩, ⟨g, q⟩, i, j, k, m⟩, rfl, by simpa [Ty.enc, fits] using w⟩

theorem pick_list {α : Type} {p : Nat → α → Prop} : ∀ n, (∀ e, e < n → ∃ x, p e x) → ∃ xs : List α, xs.length = n ∧ ∀ e x, xs[e]? = some x → p e x
  | 0, _ => ⟨[], rfl, fun e x h => by simp at h⟩
  | n + 1, h => by
    obtain ⟨xs, l, q⟩ := pick_list n fun e he => h e (by omega)
    obtain ⟨x, hx⟩ := h n (by omega)
    refine ⟨xs ++ [x], by simp [l], ?_⟩
    intro e y hy
    rcases Nat.lt_trichotomy e xs.length with he | he | he
    · rw [List.getElem?_append_left he] at hy
      exact q e y hy
    · subst he
      simp at hy
      subst hy
      rw [l]
      exact hx
    · rw [List.getElem?_eq_none (by simp; omega)] at hy
      cases hy

theorem add_off (a : Addr) (m n : Nat) : (a.add m).add n = a.add (m + n) := by
  unfold Addr.add
  by_cases hm : m = 0 <;> by_cases hn : n = 0 <;> simp [hm, hn, Nat.add_assoc]

/-- A list that is handed in. -/
theorem open_list {U : Ty} {t e : Nat} {a : Option Addr} {len cap : Nat} {d : DataW H} {ps : List MemPlace} (hu : P.underlying t = some (.slice e)) (hk : flatK P 6 e = some (kindsOf (U.enc U.dft))) (hc : P.cellsOf e = U.sz)
    (h : DataW.Trod enc P w 0 (fun _ => true) held t (.slice a len cap) d ps) :
    ∃ xs : List U.El, xs.length = len ∧ (∀ x ∈ xs, ∀ c ∈ U.enc x, fits c = true) ∧ len ≤ maxLen ∧ ∀ (wr : Nat → Prop) (env : Env) (Hp : Hp) j, env j = (a, cap) → blkRel env Hp j false (.vec U xs) w := by
  obtain ⟨fuel, h⟩ := h
  cases fuel with
  | zero => simp [DataW.trod] at h
  | succ fuel =>
  have hcs : (Value.slice a len cap).cells.toList = [Value.slice a len cap] := rfl
  rw [hcs] at h
  have hkl : (kindsOf (U.enc U.dft)).length = U.sz := by cases U <;> rfl
  cases a with
  | none =>
    have : len = 0 ∧ cap = 0 := by
      cases len <;> cases cap <;> simp [DataW.trod, hu] at h <;> simp
    obtain ⟨rfl, rfl⟩ := this
    refine ⟨[], rfl, fun x hx => (by cases hx), Nat.zero_le _, ?_⟩
    intro wr env Hp j he
    exact ⟨by simp, .inl (by simp [he])⟩
  | some a =>
    simp only [DataW.trod, hu] at h
    split at h
    case isFalse => cases h
    rename_i hcond
    obtain ⟨_, hlc, hcm⟩ := hcond
    simp only [if_true, Option.bind_eq_some_iff, Option.map_eq_some_iff] at h
    obtain ⟨elems, h1, rest, h2, _⟩ := h
    have cells : ∀ k, k < cap → ∃ cs : List Value, w.cells? 0 (a.add (k * P.cellsOf e)) (P.cellsOf e) = some cs ∧ FlatV (kindsOf (U.enc U.dft)) cs := by
      intro k hk'
      have : ∃ y, (w.cells? 0 (a.add (k * P.cellsOf e)) (P.cellsOf e)).bind (DataW.trod enc P w 0 (fun _ => true) held fuel e) = some y := by
        by_cases hkl : k < len
        · have h1' : List.mapM (fun i : Nat => (w.cells? 0 (a.add (i * P.cellsOf e)) (P.cellsOf e)).bind (DataW.trod enc P w 0 (fun _ => true) held fuel e)) (List.range len) = some elems := h1
          exact WideShapes.mapM_each h1' k (by simp [hkl])
        · have h2' : List.mapM (fun i : Nat => (w.cells? 0 (a.add ((len + i) * P.cellsOf e)) (P.cellsOf e)).bind (DataW.trod enc P w 0 (fun _ => true) held fuel e)) (List.range (cap - len)) = some rest := h2
          obtain ⟨y, hy⟩ := WideShapes.mapM_each h2' (k - len) (by simp; omega)
          rw [show len + (k - len) = k by omega] at hy
          exact ⟨y, hy⟩
      obtain ⟨y, hy⟩ := this
      simp only [Option.bind_eq_some_iff] at hy
      obtain ⟨cs, hcs, hy⟩ := hy
      exact ⟨cs, hcs, trod_flat 6 e _ hk fuel cs y hy fun _ _ _ => by rw [hc, hkl]⟩
    have cellAt : ∀ k, k < cap → ∃ x : U.El, (∀ c ∈ U.enc x, fits c = true) ∧ ∀ o, o < U.sz → w.cell? (a.add (k * U.sz + o)) = some (svl ((U.enc x).getD o .any)) := by
      intro k hk'
      obtain ⟨cs, hcs, hfl⟩ := cells k hk'
      obtain ⟨x, rfl, hfit⟩ := dec_flat U hfl
      refine ⟨x, hfit, ?_⟩
      intro o ho
      unfold World.cells? at hcs
      split at hcs
      case isFalse => cases hcs
      rw [hc] at hcs
      have h3 := mapM_some_get hcs o o (by simp [ho])
      rw [← add_off, h3]
      have hl := enc_length U x
      rw [List.getElem?_map, List.getD_eq_getElem?_getD, List.getElem?_eq_getElem (by omega)]
      rfl
    obtain ⟨xs, hxl, hxs⟩ := pick_list (p := fun k (x : U.El) => (∀ c ∈ U.enc x, fits c = true) ∧ ∀ o, o < U.sz → w.cell? (a.add (k * U.sz + o)) = some (svl ((U.enc x).getD o .any))) len (fun k hk' => cellAt k (by omega))
    refine ⟨xs, hxl, ?_, by omega, ?_⟩
    · intro x hx
      obtain ⟨k, hk', rfl⟩ := List.getElem_of_mem hx
      exact (hxs k _ (List.getElem?_eq_getElem hk')).1
    · intro wr env Hp j he
      refine ⟨by rw [he, hxl]; exact hlc, ?_⟩
      by_cases hz : cap = 0
      · exact .inl (by rw [he]; exact hz)
      right
      have pos := sz_pos U
      -- a cell that there is
      have cell : ∀ q, q < cap * U.sz → ∃ v, w.cell? (a.add q) = some v := by
        intro q hq
        have hq1 : q / U.sz < cap := by
          rw [Nat.div_lt_iff_lt_mul pos]
          exact hq
        obtain ⟨x, _, hx⟩ := cellAt (q / U.sz) hq1
        have := hx (q % U.sz) (Nat.mod_lt _ pos)
        rw [show q / U.sz * U.sz + q % U.sz = q by rw [Nat.mul_comm]; exact Nat.div_add_mod q U.sz] at this
        exact ⟨_, this⟩
      have cpos : 0 < cap * U.sz := Nat.mul_pos (by omega) pos
      obtain ⟨b, off, spot⟩ := a
      have spotNone : spot = none := by
        obtain ⟨v, hv⟩ := cell 0 cpos
        cases spot with
        | none => rfl
        | some s =>
          exfalso
          simp only [World.cell?, Addr.add] at hv
          split at hv <;> simp_all
      subst spotNone
      simp only [add_addr] at cell hxs
      obtain ⟨v, hv⟩ := cell 0 cpos
      simp only [World.cell?] at hv
      split at hv
      case h_2 => cases hv
      rename_i vs E0 fz hheap
      refine ⟨b, off, E0, vs, fz, by rw [he], hheap, ?_, ?_, fun q => by cases q⟩
      · rw [he]
        obtain ⟨v2, hv2⟩ := cell (cap * U.sz - 1) (by omega)
        rw [cell_of hheap] at hv2
        have := (Array.getElem?_eq_some_iff.1 hv2).1
        simp only
        omega
      · intro k hk' o ho
        obtain ⟨_, hx⟩ := hxs k _ (List.getElem?_eq_getElem hk')
        have := hx o ho
        rw [cell_of hheap] at this
        rw [Nat.add_assoc, this]
        simp [Ty.ix, List.getD, hk']

/-- A field of a struct: its type, its offset, its cells. -/
def fieldOf (P : Program) (t i : Nat) : Option (Nat × Nat × Nat) := match P.underlying t with
  | some (.struct fs) => (fs[i]?).map fun f => (f.type, f.offset, P.cellsOf f.type)
  | _ => none

theorem open_field {t i ft off : Nat} {cs : Array Value} {v : Value} {d : DataW H} {ps : List MemPlace} (hf : fieldOf P t i = some (ft, off, 1)) (h : DataW.Trod enc P w base spare held t (.agg cs) d ps) (hv : cs.toList[off]? = some v) (h1 : v.oneCell' = true) :
    ∃ d' ps', DataW.Trod enc P w base spare held ft v d' ps' := by
  unfold fieldOf at hf
  split at hf
  case h_2 => cases hf
  rename_i fs hu
  simp only [Option.map_eq_some_iff, Prod.mk.injEq] at hf
  obtain ⟨f, hfi, rfl, rfl, hsz⟩ := hf
  obtain ⟨fuel, h⟩ := h
  cases fuel with
  | zero => simp [DataW.trod] at h
  | succ fuel =>
  have hcs : (Value.agg cs).cells.toList = cs.toList := rfl
  rw [hcs] at h
  simp only [DataW.trod, hu] at h
  split at h
  case isFalse => cases h
  simp only [Option.map_eq_some_iff] at h
  obtain ⟨ys, hys, _⟩ := h
  have hys' : List.mapM (fun f : Field => DataW.trod enc P w base spare held fuel f.type ((cs.toList.drop f.offset).take (P.cellsOf f.type))) fs.toList = some ys := hys
  obtain ⟨y, hy⟩ := WideShapes.mapM_each hys' f (by
    have := Array.mem_of_getElem? hfi
    simpa using this)
  refine ⟨y.1, y.2, fuel, ?_⟩
  rw [hsz] at hy
  have e : (cs.toList.drop f.offset).take 1 = [v] := by
    obtain ⟨hlt, hvv⟩ := List.getElem?_eq_some_iff.1 hv
    rw [List.drop_eq_getElem_cons hlt, hvv]
    rfl
  have e2 : v.cells.toList = [v] := by cases v <;> first | rfl | cases h1
  rw [e2, ← e]
  exact hy

def fieldTy (P : Program) (t i : Nat) : Nat := match fieldOf P t i with
  | some (ft, _, _) => ft
  | none => 0
def elemTy (P : Program) (t : Nat) : Nat := match P.underlying t with
  | some (.slice e) => e
  | _ => 0

end

/-- One list that may only be read. -/
theorem hrel_one {U : Ty} {xs : List U.El} {wr : Nat → Prop} {env : Env} {w : World} (h : ∀ Hp : Hp, blkRel env Hp 0 false (.vec U xs) w) : HRel wr env (ofL [(false, .vec U xs)]) w := by
  have only : ∀ (j : Nat) r b, ofL [(false, Blk.vec U xs)] j = some (r, b) → j = 0 ∧ r = false ∧ b = .vec U xs := by
    intro j r b hj
    cases j with
    | zero => simp only [ofL, List.getElem?_cons_zero, Option.some.injEq, Prod.mk.injEq] at hj; exact ⟨rfl, hj.1.symm, hj.2.symm⟩
    | succ j => simp [ofL] at hj
  refine ⟨?_, ?_, ?_⟩
  · intro j r b hj
    obtain ⟨rfl, rfl, rfl⟩ := only j r b hj
    exact h _
  · intro i j ri bi rj bj hij hi hj
    exact absurd ((only i ri bi hi).1.trans (only j rj bj hj).1.symm) hij
  · intro j b hj
    obtain ⟨_, h2, _⟩ := only j true b hj
    cases h2

/-- Lists that may only be read. -/
theorem hrel_ro {L : List Ent} {wr : Nat → Prop} {env : Env} {w : World} (h : ∀ (j : Nat) r b, L[j]? = some (r, b) → r = false ∧ ∀ Hp : Hp, blkRel env Hp j false b w) : HRel wr env (ofL L) w := by
  refine ⟨?_, ?_, ?_⟩
  · intro j r b hj
    obtain ⟨rfl, h2⟩ := h j r b hj
    exact h2 _
  · intro i j ri bi rj bj hij hi hj hr
    have h1 := (h i ri bi hi).1
    have h2 := (h j rj bj hj).1
    subst h1 h2
    rcases hr with hr | hr <;> cases hr
  · intro j b hj
    have := (h j true b hj).1
    cases this

/-- A list as it may come in: not too long, its numbers of their kinds' sizes. -/
def LOk (T : Ty) (xs : List T.El) : Prop := xs.length ≤ 9223372036854775807 ∧ ∀ x ∈ xs, ∀ c ∈ T.enc x, fits c = true

theorem okAll_cons {P : Program} {w : World} {r : Reach} {base : Nat} {t : TypeId} {ts : List TypeId} {vs : List Value} (h : OkAll P w r base (t :: ts) vs) : ∃ v vs', vs = v :: vs' ∧ Cell.okWide P w r base t v ∧ OkAll P w r base ts vs' := by
  cases vs with
  | nil => exact h.elim
  | cons v vs' => exact ⟨v, vs', rfl, h.1, h.2⟩
theorem okAll_nil {P : Program} {w : World} {r : Reach} {base : Nat} {vs : List Value} (h : OkAll P w r base [] vs) : vs = [] := by
  cases vs with
  | nil => rfl
  | cons v vs' => exact h.elim

end Go.Proofs.YtdhbkcaaijgocaaGreat.Sym

namespace Go.Proofs.YtdhbkcaaijgocaaGreat.Sym
open Go
set_option linter.unusedVariables false
set_option linter.unusedSimpArgs false
set_option maxRecDepth 100000

/-- The bound on what comes in: what is left of it, or -1. -/
def szLeft (b n : Int) : Int := if W (b - n) < 0 then -1 else W (b - n)
/-- Are two things the same? -/
noncomputable def same {α : Type} (a b : α) : Bool := @decide (a = b) (Classical.propDecidable _)
@[simp] theorem same_self {α : Type} (a : α) : same a a = true := by simp [same]
theorem same_ff {α : Type} {a b : α} (h : a ≠ b) : same a b = false := by simp [same, h]
theorem same_tt {α : Type} {a b : α} (h : a = b) : same a b = true := by simp [same, h]
theorem same_iff {α : Type} {a b : α} : same a b = true ↔ a = b := by simp [same]
theorem same_iff_ff {α : Type} {a b : α} : same a b = false ↔ a ≠ b := by simp [same]
theorem ix_get {T : Ty} {xs : List T.El} {i : Nat} (h : i < xs.length) : xs[i]? = some (T.ix xs i) := by
  simp [Ty.ix, List.getD, h]
theorem ix_eq {T : Ty} {xs : List T.El} {i : Nat} {x : T.El} (h : xs[i]? = some x) : T.ix xs i = x := by
  simp [Ty.ix, List.getD, h]
theorem ix_set_self {T : Ty} {xs : List T.El} {i : Nat} {x : T.El} (h : i < xs.length) : T.ix (xs.set i x) i = x := by
  simp [Ty.ix, List.getD, h]
theorem ix_set_ne {T : Ty} {xs : List T.El} {i j : Nat} {x : T.El} (h : i ≠ j) : T.ix (xs.set i x) j = T.ix xs j := by
  simp [Ty.ix, List.getD, h]
theorem take_succ_eq {T : Ty} {xs ys : List T.El} {i : Nat} (hi : i < xs.length) (hj : i < ys.length) (h : xs.take i = ys.take i) (e : T.ix xs i = T.ix ys i) : xs.take (i + 1) = ys.take (i + 1) := by
  apply List.ext_getElem?
  intro j
  simp only [List.getElem?_take]
  split
  · by_cases hji : j = i
    · subst hji
      rw [ix_get (T := T) hi, ix_get (T := T) hj, e]
    · have := congrArg (fun l => l[j]?) h
      simpa [List.getElem?_take, show j < i by omega] using this
  · rfl
theorem eq_of_take {α : Type} {xs ys : List α} {i : Nat} (hx : xs.length ≤ i) (hy : ys.length ≤ i) (h : xs.take i = ys.take i) : xs = ys := by
  rwa [List.take_of_length_le hx, List.take_of_length_le hy] at h
/-- The first of f, then those of xs. -/
def fill {α : Type} (f : Nat → α) (xs : List α) (i : Nat) : List α := (List.range i).map f ++ xs.drop i
def gen {α : Type} (f : Nat → α) (n : Nat) : List α := (List.range n).map f
@[simp] theorem length_gen {α : Type} (f : Nat → α) (n : Nat) : (gen f n).length = n := by simp [gen]
theorem fill_zero {α : Type} (f : Nat → α) (xs : List α) : fill f xs 0 = xs := by simp [fill]
theorem fill_end {α : Type} (f : Nat → α) (xs : List α) {i : Nat} (h : i = xs.length) : fill f xs i = gen f xs.length := by subst h; simp [fill, gen]
theorem length_fill {α : Type} (f : Nat → α) (xs : List α) {i : Nat} (h : i ≤ xs.length) : (fill f xs i).length = xs.length := by simp [fill]; omega
theorem fill_step {α : Type} (f : Nat → α) (xs : List α) {i : Nat} (h : i < xs.length) : (fill f xs i).set i (f i) = fill f xs (i + 1) := by
  unfold fill
  rw [List.set_append_right _ _ (by simp)]
  simp only [List.length_map, List.length_range, Nat.sub_self]
  rw [List.drop_eq_getElem_cons h, List.set_cons_zero, List.range_succ, List.map_append, List.append_assoc]
  rfl
theorem ix_gen {T : Ty} {f : Nat → T.El} {n i : Nat} (h : i < n) : T.ix (gen f n) i = f i := ix_eq (by simp [gen, h])
theorem gen_ix {T : Ty} (xs : List T.El) : gen (fun e => T.ix xs e) xs.length = xs := by
  apply List.ext_getElem?
  intro j
  by_cases h : j < xs.length
  · rw [ix_get (T := T) h]
    simp [gen, h]
  · rw [List.getElem?_eq_none (by simpa using h), List.getElem?_eq_none (by simpa using h)]
theorem heldBad {T : Ty} {xs : List T.El} {f : Nat → T.El} {i : Nat} (hi : i < xs.length) (h : T.ix xs i ≠ f i) : same xs (gen f xs.length) = false :=
  same_ff fun e => h (by rw [← ix_gen (T := T) (f := f) hi]; exact congrArg (fun l => T.ix l i) e)
theorem length_setC {T : Ty} {xs : List T.El} {e o : Nat} {vs : List SV} : (setC T xs e o vs).length = xs.length := by
  unfold setC
  split <;> simp

theorem setC_pair0 (xs : List Pair) (e : Nat) (b : Int) : setC .pair xs e 0 [.int .i64 b] = xs.set e ⟨b, (Ty.ix .pair xs e).B⟩ := rfl
theorem setC_pair1 (xs : List Pair) (e : Nat) (b : Int) : setC .pair xs e 1 [.int .i64 b] = xs.set e ⟨(Ty.ix .pair xs e).A, b⟩ := rfl
theorem length_setC_pair (xs : List Pair) (e o : Nat) (vs : List SV) : List.length (α := Pair) (setC .pair xs e o vs) = xs.length := length_setC (T := .pair)
theorem ix_set_self_pair (xs : List Pair) {i : Nat} (x : Pair) (h : i < xs.length) : Ty.ix .pair (xs.set i x) i = x := ix_set_self (T := .pair) h
def mkPair (k : Int) : Pair := ⟨k, k + 1⟩
theorem setC_body0 (xs : List Body) (e : Nat) (b : Int) : setC .body xs e 0 [.int .i64 b] = xs.set e ⟨b, ⟨(Ty.ix .body xs e).Shape.Kind, (Ty.ix .body xs e).Shape.Wide, (Ty.ix .body xs e).Shape.High⟩, ⟨(Ty.ix .body xs e).At.X, (Ty.ix .body xs e).At.Y⟩, ⟨(Ty.ix .body xs e).Drive.X, (Ty.ix .body xs e).Drive.Y⟩, (Ty.ix .body xs e).Mass, (Ty.ix .body xs e).Bounce, (Ty.ix .body xs e).Rub, (Ty.ix .body xs e).Quiet⟩ := rfl
theorem setC_body1 (xs : List Body) (e : Nat) (b : Int) : setC .body xs e 1 [.int .i64 b] = xs.set e ⟨(Ty.ix .body xs e).Id, ⟨b, (Ty.ix .body xs e).Shape.Wide, (Ty.ix .body xs e).Shape.High⟩, ⟨(Ty.ix .body xs e).At.X, (Ty.ix .body xs e).At.Y⟩, ⟨(Ty.ix .body xs e).Drive.X, (Ty.ix .body xs e).Drive.Y⟩, (Ty.ix .body xs e).Mass, (Ty.ix .body xs e).Bounce, (Ty.ix .body xs e).Rub, (Ty.ix .body xs e).Quiet⟩ := rfl
theorem setC_body2 (xs : List Body) (e : Nat) (b : Int) : setC .body xs e 2 [.int .i64 b] = xs.set e ⟨(Ty.ix .body xs e).Id, ⟨(Ty.ix .body xs e).Shape.Kind, b, (Ty.ix .body xs e).Shape.High⟩, ⟨(Ty.ix .body xs e).At.X, (Ty.ix .body xs e).At.Y⟩, ⟨(Ty.ix .body xs e).Drive.X, (Ty.ix .body xs e).Drive.Y⟩, (Ty.ix .body xs e).Mass, (Ty.ix .body xs e).Bounce, (Ty.ix .body xs e).Rub, (Ty.ix .body xs e).Quiet⟩ := rfl
theorem setC_body3 (xs : List Body) (e : Nat) (b : Int) : setC .body xs e 3 [.int .i64 b] = xs.set e ⟨(Ty.ix .body xs e).Id, ⟨(Ty.ix .body xs e).Shape.Kind, (Ty.ix .body xs e).Shape.Wide, b⟩, ⟨(Ty.ix .body xs e).At.X, (Ty.ix .body xs e).At.Y⟩, ⟨(Ty.ix .body xs e).Drive.X, (Ty.ix .body xs e).Drive.Y⟩, (Ty.ix .body xs e).Mass, (Ty.ix .body xs e).Bounce, (Ty.ix .body xs e).Rub, (Ty.ix .body xs e).Quiet⟩ := rfl
theorem setC_body4 (xs : List Body) (e : Nat) (b : Int) : setC .body xs e 4 [.int .i64 b] = xs.set e ⟨(Ty.ix .body xs e).Id, ⟨(Ty.ix .body xs e).Shape.Kind, (Ty.ix .body xs e).Shape.Wide, (Ty.ix .body xs e).Shape.High⟩, ⟨b, (Ty.ix .body xs e).At.Y⟩, ⟨(Ty.ix .body xs e).Drive.X, (Ty.ix .body xs e).Drive.Y⟩, (Ty.ix .body xs e).Mass, (Ty.ix .body xs e).Bounce, (Ty.ix .body xs e).Rub, (Ty.ix .body xs e).Quiet⟩ := rfl
theorem setC_body5 (xs : List Body) (e : Nat) (b : Int) : setC .body xs e 5 [.int .i64 b] = xs.set e ⟨(Ty.ix .body xs e).Id, ⟨(Ty.ix .body xs e).Shape.Kind, (Ty.ix .body xs e).Shape.Wide, (Ty.ix .body xs e).Shape.High⟩, ⟨(Ty.ix .body xs e).At.X, b⟩, ⟨(Ty.ix .body xs e).Drive.X, (Ty.ix .body xs e).Drive.Y⟩, (Ty.ix .body xs e).Mass, (Ty.ix .body xs e).Bounce, (Ty.ix .body xs e).Rub, (Ty.ix .body xs e).Quiet⟩ := rfl
theorem setC_body6 (xs : List Body) (e : Nat) (b : Int) : setC .body xs e 6 [.int .i64 b] = xs.set e ⟨(Ty.ix .body xs e).Id, ⟨(Ty.ix .body xs e).Shape.Kind, (Ty.ix .body xs e).Shape.Wide, (Ty.ix .body xs e).Shape.High⟩, ⟨(Ty.ix .body xs e).At.X, (Ty.ix .body xs e).At.Y⟩, ⟨b, (Ty.ix .body xs e).Drive.Y⟩, (Ty.ix .body xs e).Mass, (Ty.ix .body xs e).Bounce, (Ty.ix .body xs e).Rub, (Ty.ix .body xs e).Quiet⟩ := rfl
theorem setC_body7 (xs : List Body) (e : Nat) (b : Int) : setC .body xs e 7 [.int .i64 b] = xs.set e ⟨(Ty.ix .body xs e).Id, ⟨(Ty.ix .body xs e).Shape.Kind, (Ty.ix .body xs e).Shape.Wide, (Ty.ix .body xs e).Shape.High⟩, ⟨(Ty.ix .body xs e).At.X, (Ty.ix .body xs e).At.Y⟩, ⟨(Ty.ix .body xs e).Drive.X, b⟩, (Ty.ix .body xs e).Mass, (Ty.ix .body xs e).Bounce, (Ty.ix .body xs e).Rub, (Ty.ix .body xs e).Quiet⟩ := rfl
theorem setC_body8 (xs : List Body) (e : Nat) (b : Int) : setC .body xs e 8 [.int .i64 b] = xs.set e ⟨(Ty.ix .body xs e).Id, ⟨(Ty.ix .body xs e).Shape.Kind, (Ty.ix .body xs e).Shape.Wide, (Ty.ix .body xs e).Shape.High⟩, ⟨(Ty.ix .body xs e).At.X, (Ty.ix .body xs e).At.Y⟩, ⟨(Ty.ix .body xs e).Drive.X, (Ty.ix .body xs e).Drive.Y⟩, b, (Ty.ix .body xs e).Bounce, (Ty.ix .body xs e).Rub, (Ty.ix .body xs e).Quiet⟩ := rfl
theorem setC_body9 (xs : List Body) (e : Nat) (b : Int) : setC .body xs e 9 [.int .i64 b] = xs.set e ⟨(Ty.ix .body xs e).Id, ⟨(Ty.ix .body xs e).Shape.Kind, (Ty.ix .body xs e).Shape.Wide, (Ty.ix .body xs e).Shape.High⟩, ⟨(Ty.ix .body xs e).At.X, (Ty.ix .body xs e).At.Y⟩, ⟨(Ty.ix .body xs e).Drive.X, (Ty.ix .body xs e).Drive.Y⟩, (Ty.ix .body xs e).Mass, b, (Ty.ix .body xs e).Rub, (Ty.ix .body xs e).Quiet⟩ := rfl
theorem setC_body10 (xs : List Body) (e : Nat) (b : Int) : setC .body xs e 10 [.int .i64 b] = xs.set e ⟨(Ty.ix .body xs e).Id, ⟨(Ty.ix .body xs e).Shape.Kind, (Ty.ix .body xs e).Shape.Wide, (Ty.ix .body xs e).Shape.High⟩, ⟨(Ty.ix .body xs e).At.X, (Ty.ix .body xs e).At.Y⟩, ⟨(Ty.ix .body xs e).Drive.X, (Ty.ix .body xs e).Drive.Y⟩, (Ty.ix .body xs e).Mass, (Ty.ix .body xs e).Bounce, b, (Ty.ix .body xs e).Quiet⟩ := rfl
theorem setC_body11 (xs : List Body) (e : Nat) (b : Int) : setC .body xs e 11 [.int .i64 b] = xs.set e ⟨(Ty.ix .body xs e).Id, ⟨(Ty.ix .body xs e).Shape.Kind, (Ty.ix .body xs e).Shape.Wide, (Ty.ix .body xs e).Shape.High⟩, ⟨(Ty.ix .body xs e).At.X, (Ty.ix .body xs e).At.Y⟩, ⟨(Ty.ix .body xs e).Drive.X, (Ty.ix .body xs e).Drive.Y⟩, (Ty.ix .body xs e).Mass, (Ty.ix .body xs e).Bounce, (Ty.ix .body xs e).Rub, b⟩ := rfl
theorem length_setC_body (xs : List Body) (e o : Nat) (vs : List SV) : List.length (α := Body) (setC .body xs e o vs) = xs.length := length_setC (T := .body)
theorem ix_set_self_body (xs : List Body) {i : Nat} (x : Body) (h : i < xs.length) : Ty.ix .body (xs.set i x) i = x := ix_set_self (T := .body) h
def mkBody (k : Int) : Body := ⟨k, ⟨k + 1, k + 1 + 1, k + 1 + 1 + 1⟩, ⟨k + 1 + 1 + 1 + 1, k + 1 + 1 + 1 + 1 + 1⟩, ⟨k + 1 + 1 + 1 + 1 + 1 + 1, k + 1 + 1 + 1 + 1 + 1 + 1 + 1⟩, k + 1 + 1 + 1 + 1 + 1 + 1 + 1 + 1, k + 1 + 1 + 1 + 1 + 1 + 1 + 1 + 1 + 1, k + 1 + 1 + 1 + 1 + 1 + 1 + 1 + 1 + 1 + 1, k + 1 + 1 + 1 + 1 + 1 + 1 + 1 + 1 + 1 + 1 + 1⟩
theorem setC_event0 (xs : List Event) (e : Nat) (b : Bool) : setC .event xs e 0 [.bool b] = xs.set e ⟨b, ⟨(Ty.ix .event xs e).Pair.A, (Ty.ix .event xs e).Pair.B⟩⟩ := rfl
theorem setC_event1 (xs : List Event) (e : Nat) (b : Int) : setC .event xs e 1 [.int .i64 b] = xs.set e ⟨(Ty.ix .event xs e).Begins, ⟨b, (Ty.ix .event xs e).Pair.B⟩⟩ := rfl
theorem setC_event2 (xs : List Event) (e : Nat) (b : Int) : setC .event xs e 2 [.int .i64 b] = xs.set e ⟨(Ty.ix .event xs e).Begins, ⟨(Ty.ix .event xs e).Pair.A, b⟩⟩ := rfl
theorem length_setC_event (xs : List Event) (e o : Nat) (vs : List SV) : List.length (α := Event) (setC .event xs e o vs) = xs.length := length_setC (T := .event)
theorem ix_set_self_event (xs : List Event) {i : Nat} (x : Event) (h : i < xs.length) : Ty.ix .event (xs.set i x) i = x := ix_set_self (T := .event) h
def mkEvent (k : Int) : Event := ⟨Int.tmod k 3 == 0, ⟨k + 1, k + 1 + 1⟩⟩
noncomputable def fs_lawsEqVec : Fs := ⟨[], fun args H => match args, H with
  | [.agg [.int .i64 aX, .int .i64 aY], .agg [.int .i64 bX, .int .i64 bY]], [] => some (none, .bool (same (Vec.mk aX aY) (Vec.mk bX bY)), [])
  | _, _ => none⟩

theorem vc_lawsEqVec (aX : Int) (aY : Int) (bX : Int) (bY : Int) (Q : SV → List Ent → Prop) :
    fnVC tt (look []) L0 Tryz.f176 [.agg [.int .i64 aX, .int .i64 aY], .agg [.int .i64 bX, .int .i64 bY]] [] Q =
    (ifB (aX != bX) (Q (SV.bool false) []) (ifB (aY != bY) (Q (SV.bool false) []) (Q (SV.bool true) []))) := by kernel_rfl

theorem ok_lawsEqVec : FsOk Tryz.prog 176 fs_lawsEqVec := fsOk_of tt_ok tabFs_nil mixed Tryz.func176 (by kernel_rfl) (by kernel_rfl) (by
    intro args LL p r HH h hp
    unfold fs_lawsEqVec at h
    dsimp only at h
    split at h
    case h_2 => cases h
    rename_i aX aY bX bY
    simp only [Option.some.injEq, Prod.mk.injEq] at h
    obtain ⟨rfl, rfl, rfl⟩ := h
    refine ⟨by simp [Form, stays], L0, ?_⟩
    rw [vc_lawsEqVec]
    try dsimp only

    repeat' (refine ifB_of (fun _ => ?_) (fun _ => ?_))
    all_goals first
      | (rw [same_ff (by rintro h; cases h; simp_all)]; exact ⟨rfl, rfl⟩)
      | (simp_all [same_iff]))

noncomputable def fs_lawsEqShape : Fs := ⟨[], fun args H => match args, H with
  | [.agg [.int .i64 aK, .int .i64 aW, .int .i64 aH], .agg [.int .i64 bK, .int .i64 bW, .int .i64 bH]], [] => some (none, .bool (same (Shape.mk aK aW aH) (Shape.mk bK bW bH)), [])
  | _, _ => none⟩

theorem vc_lawsEqShape (aK : Int) (aW : Int) (aH : Int) (bK : Int) (bW : Int) (bH : Int) (Q : SV → List Ent → Prop) :
    fnVC tt (look []) L0 Tryz.f175 [.agg [.int .i64 aK, .int .i64 aW, .int .i64 aH], .agg [.int .i64 bK, .int .i64 bW, .int .i64 bH]] [] Q =
    (ifB (aK != bK) (Q (SV.bool false) []) (ifB (aW != bW) (Q (SV.bool false) []) (ifB (aH != bH) (Q (SV.bool false) []) (Q (SV.bool true) [])))) := by kernel_rfl

theorem ok_lawsEqShape : FsOk Tryz.prog 175 fs_lawsEqShape := fsOk_of tt_ok tabFs_nil mixed Tryz.func175 (by kernel_rfl) (by kernel_rfl) (by
    intro args LL p r HH h hp
    unfold fs_lawsEqShape at h
    dsimp only at h
    split at h
    case h_2 => cases h
    rename_i aK aW aH bK bW bH
    simp only [Option.some.injEq, Prod.mk.injEq] at h
    obtain ⟨rfl, rfl, rfl⟩ := h
    refine ⟨by simp [Form, stays], L0, ?_⟩
    rw [vc_lawsEqShape]
    try dsimp only

    repeat' (refine ifB_of (fun _ => ?_) (fun _ => ?_))
    all_goals first
      | (rw [same_ff (by rintro h; cases h; simp_all)]; exact ⟨rfl, rfl⟩)
      | (simp_all [same_iff]))

noncomputable def fs_lawsEqPair : Fs := ⟨[], fun args H => match args, H with
  | [.agg [.int .i64 aA, .int .i64 aB], .agg [.int .i64 bA, .int .i64 bB]], [] => some (none, .bool (same (Pair.mk aA aB) (Pair.mk bA bB)), [])
  | _, _ => none⟩

theorem vc_lawsEqPair (aA : Int) (aB : Int) (bA : Int) (bB : Int) (Q : SV → List Ent → Prop) :
    fnVC tt (look []) L0 Tryz.f181 [.agg [.int .i64 aA, .int .i64 aB], .agg [.int .i64 bA, .int .i64 bB]] [] Q =
    (ifB (aA != bA) (Q (SV.bool false) []) (ifB (aB != bB) (Q (SV.bool false) []) (Q (SV.bool true) []))) := by kernel_rfl

theorem ok_lawsEqPair : FsOk Tryz.prog 181 fs_lawsEqPair := fsOk_of tt_ok tabFs_nil mixed Tryz.func181 (by kernel_rfl) (by kernel_rfl) (by
    intro args LL p r HH h hp
    unfold fs_lawsEqPair at h
    dsimp only at h
    split at h
    case h_2 => cases h
    rename_i aA aB bA bB
    simp only [Option.some.injEq, Prod.mk.injEq] at h
    obtain ⟨rfl, rfl, rfl⟩ := h
    refine ⟨by simp [Form, stays], L0, ?_⟩
    rw [vc_lawsEqPair]
    try dsimp only

    repeat' (refine ifB_of (fun _ => ?_) (fun _ => ?_))
    all_goals first
      | (rw [same_ff (by rintro h; cases h; simp_all)]; exact ⟨rfl, rfl⟩)
      | (simp_all [same_iff]))

noncomputable def fs_lawsEqBody : Fs := ⟨[], fun args H => match args, H with
  | [.agg [.int .i64 aI, .int .i64 aK, .int .i64 aW, .int .i64 aH, .int .i64 aX, .int .i64 aY, .int .i64 aU, .int .i64 aV, .int .i64 aM, .int .i64 aB, .int .i64 aR, .int .i64 aQ], .agg [.int .i64 bI, .int .i64 bK, .int .i64 bW, .int .i64 bH, .int .i64 bX, .int .i64 bY, .int .i64 bU, .int .i64 bV, .int .i64 bM, .int .i64 bB, .int .i64 bR, .int .i64 bQ]], [] => some (none, .bool (same (Body.mk aI (Shape.mk aK aW aH) (Vec.mk aX aY) (Vec.mk aU aV) aM aB aR aQ) (Body.mk bI (Shape.mk bK bW bH) (Vec.mk bX bY) (Vec.mk bU bV) bM bB bR bQ)), [])
  | _, _ => none⟩

theorem vc_lawsEqBody (aI : Int) (aK : Int) (aW : Int) (aH : Int) (aX : Int) (aY : Int) (aU : Int) (aV : Int) (aM : Int) (aB : Int) (aR : Int) (aQ : Int) (bI : Int) (bK : Int) (bW : Int) (bH : Int) (bX : Int) (bY : Int) (bU : Int) (bV : Int) (bM : Int) (bB : Int) (bR : Int) (bQ : Int) (Q : SV → List Ent → Prop) :
    fnVC tt (look [(175, fs_lawsEqShape), (176, fs_lawsEqVec)]) L0 Tryz.f89 [.agg [.int .i64 aI, .int .i64 aK, .int .i64 aW, .int .i64 aH, .int .i64 aX, .int .i64 aY, .int .i64 aU, .int .i64 aV, .int .i64 aM, .int .i64 aB, .int .i64 aR, .int .i64 aQ], .agg [.int .i64 bI, .int .i64 bK, .int .i64 bW, .int .i64 bH, .int .i64 bX, .int .i64 bY, .int .i64 bU, .int .i64 bV, .int .i64 bM, .int .i64 bB, .int .i64 bR, .int .i64 bQ]] [] Q =
    (ifB (aI != bI) (Q (SV.bool false) []) (ifB (!same (Shape.mk aK aW aH) (Shape.mk bK bW bH)) (Q (SV.bool false) []) (ifB (!same (Vec.mk aX aY) (Vec.mk bX bY)) (Q (SV.bool false) []) (ifB (!same (Vec.mk aU aV) (Vec.mk bU bV)) (Q (SV.bool false) []) (ifB (aM != bM) (Q (SV.bool false) []) (ifB (aB != bB) (Q (SV.bool false) []) (ifB (aR != bR) (Q (SV.bool false) []) (ifB (aQ != bQ) (Q (SV.bool false) []) (Q (SV.bool true) []))))))))) := by kernel_rfl

theorem ok_lawsEqBody : FsOk Tryz.prog 89 fs_lawsEqBody := fsOk_of tt_ok (tabFs_cons ok_lawsEqShape (tabFs_cons ok_lawsEqVec tabFs_nil)) mixed Tryz.func89 (by kernel_rfl) (by kernel_rfl) (by
    intro args LL p r HH h hp
    unfold fs_lawsEqBody at h
    dsimp only at h
    split at h
    case h_2 => cases h
    rename_i aI aK aW aH aX aY aU aV aM aB aR aQ bI bK bW bH bX bY bU bV bM bB bR bQ
    simp only [Option.some.injEq, Prod.mk.injEq] at h
    obtain ⟨rfl, rfl, rfl⟩ := h
    refine ⟨by simp [Form, stays], L0, ?_⟩
    rw [vc_lawsEqBody]
    try dsimp only
    repeat' (refine ifB_of (fun _ => ?_) (fun _ => ?_))
    all_goals first
      | (rw [same_ff (by rintro h; cases h; simp_all)]; exact ⟨rfl, rfl⟩)
      | (simp_all [same_iff]))

theorem eqEvent_iff (u v : Event) : (u.Begins = v.Begins ∧ u.Pair.A = v.Pair.A ∧ u.Pair.B = v.Pair.B) ↔ u = v := by
  constructor
  · intro q
    obtain ⟨a, ⟨b, c⟩⟩ := u
    obtain ⟨a, ⟨b, c⟩⟩ := v
    simp_all
  · rintro rfl
    simp
noncomputable def fs_lawsEqEvent : Fs := ⟨[], fun args H => match args, H with
  | [.agg [.bool x, .int .i64 y, .int .i64 z], .agg [.bool u, .int .i64 v, .int .i64 w]], [] => some (none, .bool (same (Event.mk x (Pair.mk y z)) (Event.mk u (Pair.mk v w))), [])
  | _, _ => none⟩

theorem vc_lawsEqEvent (x : Bool) (y : Int) (z : Int) (u : Bool) (v : Int) (w : Int) (Q : SV → List Ent → Prop) :
    fnVC tt (look [(181, fs_lawsEqPair)]) L0 Tryz.f99 [.agg [.bool x, .int .i64 y, .int .i64 z], .agg [.bool u, .int .i64 v, .int .i64 w]] [] Q =
    (ifB (!x == u) (Q (SV.bool false) []) (ifB (!same (Pair.mk y z) (Pair.mk v w)) (Q (SV.bool false) []) (Q (SV.bool true) []))) := by kernel_rfl

theorem ok_lawsEqEvent : FsOk Tryz.prog 99 fs_lawsEqEvent := fsOk_of tt_ok (tabFs_cons ok_lawsEqPair tabFs_nil) mixed Tryz.func99 (by kernel_rfl) (by kernel_rfl) (by
    intro args LL p r HH h hp
    unfold fs_lawsEqEvent at h
    dsimp only at h
    split at h
    case h_2 => cases h
    rename_i x y z u v w
    simp only [Option.some.injEq, Prod.mk.injEq] at h
    obtain ⟨rfl, rfl, rfl⟩ := h
    refine ⟨by simp [Form, stays], L0, ?_⟩
    rw [vc_lawsEqEvent]
    try dsimp only
    repeat' (refine ifB_of (fun _ => ?_) (fun _ => ?_))
    all_goals first
      | (rw [same_ff (by rintro h; cases h; simp_all)]; exact ⟨rfl, rfl⟩)
      | (simp_all [same_iff]))

def LSlawsEqPairS (xs : List Pair) (ys : List Pair) : LS where
  S := List Pair × List Pair × Unit × Unit × Int
  live := [(0, [none]), (1, [none]), (5, [none])]
  shape := fun s => ([.vec 0, .vec 1, .int .i64 s.2.2.2.2], [(false, .vec .pair s.1), (false, .vec .pair s.2.1)])
  get := fun v h => match v, h with
    | [.vec 0, .vec 1, .int .i64 i], [(false, .vec .pair xs'), (false, .vec .pair ys')] => some (xs', ys', (), (), i)
    | _, _ => none
  inv := fun s0 s => Holds (s.1 = xs ∧ s.2.1 = ys ∧ 0 ≤ s.2.2.2.2 ∧ s.2.2.2.2 ≤ xs.length ∧ xs.take s.2.2.2.2.toNat = ys.take s.2.2.2.2.toNat)
  mu := fun s => ((xs.length : Int) - s.2.2.2.2).toNat
  ok := by
    intro v h s hg
    try dsimp only at hg
    split at hg <;> cases hg
    rfl

def L_lawsEqPairS (xs ys : List Pair) : Loops := fun n => match n with
  | 4 => some (LSlawsEqPairS xs ys)
  | _ => none
noncomputable def fs_lawsEqPairS : Fs := ⟨[], fun args H => match args, H with
  | [.vec 0, .vec 1], [(false, .vec .pair xs), (false, .vec .pair ys)] => some ((some (xs.length ≤ 4611686018427387904)), .bool (same xs ys), [(false, .vec .pair xs), (false, .vec .pair ys)])
  | _, _ => none⟩

theorem vc_lawsEqPairS (xs : List Pair) (ys : List Pair) (Q : SV → List Ent → Prop) :
    fnVC tt (look [(181, fs_lawsEqPair)]) (L_lawsEqPairS xs ys) Tryz.f98 [.vec 0, .vec 1] [(false, .vec .pair xs), (false, .vec .pair ys)] Q =
    (ifB ((↑(List.length xs) : Int) != (↑(List.length ys) : Int)) (Q (SV.bool false) [(false, Blk.vec Ty.pair xs), (false, Blk.vec Ty.pair ys)]) (Holds (xs = xs ∧ ys = ys ∧ (0 : Int) ≤ (0 : Int) ∧ (0 : Int) ≤ (↑(List.length xs) : Int) ∧ List.take (Int.toNat (0 : Int)) xs = List.take (Int.toNat (0 : Int)) ys) ∧ ∀ (x : List Pair × List Pair × Unit × Unit × Int), Holds (Prod.fst x = xs ∧ Prod.fst (Prod.snd x) = ys ∧ (0 : Int) ≤ Prod.snd (Prod.snd (Prod.snd (Prod.snd x))) ∧ Prod.snd (Prod.snd (Prod.snd (Prod.snd x))) ≤ (↑(List.length xs) : Int) ∧ List.take (Int.toNat (Prod.snd (Prod.snd (Prod.snd (Prod.snd x))))) xs = List.take (Int.toNat (Prod.snd (Prod.snd (Prod.snd (Prod.snd x))))) ys) → ifB (decide (Prod.snd (Prod.snd (Prod.snd (Prod.snd x))) < (↑(List.length (Prod.fst x)) : Int))) (((0 : Int) ≤ Prod.snd (Prod.snd (Prod.snd (Prod.snd x))) ∧ Prod.snd (Prod.snd (Prod.snd (Prod.snd x))) < (↑(List.length (Prod.fst x)) : Int)) ∧ ((0 : Int) ≤ Prod.snd (Prod.snd (Prod.snd (Prod.snd x))) ∧ Prod.snd (Prod.snd (Prod.snd (Prod.snd x))) < (↑(List.length (Prod.fst (Prod.snd x))) : Int)) ∧ ifB (!same (Ty.ix Ty.pair (Prod.fst x) (Int.toNat (Prod.snd (Prod.snd (Prod.snd (Prod.snd x)))))) (Ty.ix Ty.pair (Prod.fst (Prod.snd x)) (Int.toNat (Prod.snd (Prod.snd (Prod.snd (Prod.snd x))))))) (Q (SV.bool false) [(false, Blk.vec Ty.pair (Prod.fst x)), (false, Blk.vec Ty.pair (Prod.fst (Prod.snd x)))]) (Holds (Prod.fst x = xs ∧ Prod.fst (Prod.snd x) = ys ∧ (0 : Int) ≤ IntKind.wrap IntKind.i64 (Prod.snd (Prod.snd (Prod.snd (Prod.snd x))) + (1 : Int)) ∧ IntKind.wrap IntKind.i64 (Prod.snd (Prod.snd (Prod.snd (Prod.snd x))) + (1 : Int)) ≤ (↑(List.length xs) : Int) ∧ List.take (Int.toNat (IntKind.wrap IntKind.i64 (Prod.snd (Prod.snd (Prod.snd (Prod.snd x))) + (1 : Int)))) xs = List.take (Int.toNat (IntKind.wrap IntKind.i64 (Prod.snd (Prod.snd (Prod.snd (Prod.snd x))) + (1 : Int)))) ys) ∧ Int.toNat ((↑(List.length xs) : Int) - IntKind.wrap IntKind.i64 (Prod.snd (Prod.snd (Prod.snd (Prod.snd x))) + (1 : Int))) < Int.toNat ((↑(List.length xs) : Int) - Prod.snd (Prod.snd (Prod.snd (Prod.snd x)))))) (Q (SV.bool true) [(false, Blk.vec Ty.pair (Prod.fst x)), (false, Blk.vec Ty.pair (Prod.fst (Prod.snd x)))]))) := by kernel_rfl

theorem ok_lawsEqPairS : FsOk Tryz.prog 98 fs_lawsEqPairS := fsOk_of tt_ok (tabFs_cons ok_lawsEqPair tabFs_nil) mixed Tryz.func98 (by kernel_rfl) (by kernel_rfl) (by
    intro args LL p r HH h hp
    unfold fs_lawsEqPairS at h
    dsimp only at h
    split at h
    case h_2 => cases h
    rename_i xs ys
    simp only [Option.some.injEq, Prod.mk.injEq] at h
    obtain ⟨rfl, rfl, rfl⟩ := h
    refine ⟨by simp [Form, stays], (L_lawsEqPairS xs ys), ?_⟩
    rw [vc_lawsEqPairS]
    try dsimp only
    have hb := hp _ rfl
    refine ifB_of (fun c => ?_) (fun c => ?_)
    · have c : (xs.length : Int) ≠ ys.length := by simpa using c
      rw [same_ff (fun e => c (by rw [e]))]
      exact ⟨rfl, rfl⟩
    have hl : xs.length = ys.length := by
      have : (xs.length : Int) = ys.length := by simpa using c
      omega
    refine ⟨⟨rfl, rfl, by omega, by omega, rfl⟩, ?_⟩
    rintro ⟨xs', ys', u, v, i⟩ ⟨h⟩
    obtain ⟨rfl, rfl, h0, h1, h3⟩ := h
    dsimp only at hb hl h0 h1 h3 ⊢
    refine ifB_of (fun c => ?_) (fun c => ?_)
    · have hi : i < xs'.length := of_decide_eq_true c
      have hw : IntKind.i64.wrap (i + 1) = i + 1 := wrap_small (by omega) (by omega)
      rw [hw]
      refine ⟨⟨h0, hi⟩, ⟨h0, by omega⟩, ?_⟩
      refine ifB_of (fun c => ?_) (fun c => ?_)
      · have c : Ty.ix .pair xs' i.toNat ≠ Ty.ix .pair ys' i.toNat := by simpa [same_iff_ff] using c
        rw [same_ff (fun e => c (by rw [e]))]
        exact ⟨rfl, rfl⟩
      · have c : Ty.ix .pair xs' i.toNat = Ty.ix .pair ys' i.toNat := by simpa [same_iff] using c
        have e1 : (i + 1).toNat = i.toNat + 1 := by omega
        refine ⟨⟨rfl, rfl, by omega, by omega, ?_⟩, by omega⟩
        rw [e1]
        exact take_succ_eq (T := .pair) (by omega) (by omega) h3 c
    · have hi : ¬ i < xs'.length := of_decide_eq_false c
      have : xs' = ys' := eq_of_take (by omega) (by omega) h3
      subst this
      rw [same_self]
      exact ⟨rfl, rfl⟩)

theorem eqPair_iff (u v : Pair) : (u.A = v.A ∧ u.B = v.B) ↔ u = v := by
  constructor
  · intro q
    obtain ⟨a, b⟩ := u
    obtain ⟨a, b⟩ := v
    simp_all
  · rintro rfl
    simp
noncomputable def fs_lawsToPair : Fs := ⟨[], fun args H => match args, H with
  | [.agg [.int .i64 xA, .int .i64 xB]], [] => some (none, .agg [.int .i64 ((Pair.mk xA xB)).A, .int .i64 ((Pair.mk xA xB)).B], [])
  | _, _ => none⟩

theorem vc_lawsToPair (xA : Int) (xB : Int) (Q : SV → List Ent → Prop) :
    fnVC tt (look []) L0 Tryz.f178 [.agg [.int .i64 xA, .int .i64 xB]] [] Q =
    (Q (SV.agg [SV.int IntKind.i64 xA, SV.int IntKind.i64 xB]) []) := by kernel_rfl

theorem ok_lawsToPair : FsOk Tryz.prog 178 fs_lawsToPair := fsOk_of tt_ok tabFs_nil mixed Tryz.func178 (by kernel_rfl) (by kernel_rfl) (by
    intro args LL p r HH h hp
    unfold fs_lawsToPair at h
    dsimp only at h
    split at h
    case h_2 => cases h
    rename_i xA xB
    simp only [Option.some.injEq, Prod.mk.injEq] at h
    obtain ⟨rfl, rfl, rfl⟩ := h
    refine ⟨by simp [Form, stays], L0, ?_⟩
    rw [vc_lawsToPair]
    try dsimp only
    first
      | exact ⟨rfl, rfl⟩
      | simp)

def LSlawsToPairS (xs : List Pair) : LS where
  S := List Pair × Unit × List Pair × Int
  live := [(0, [none]), (3, [some .pair]), (4, [none])]
  shape := fun s => ([.vec 0, .vec 1, .int .i64 s.2.2.2], [(false, .vec .pair s.1), (true, .vec .pair s.2.2.1)])
  get := fun v h => match v, h with
    | [.vec 0, .vec 1, .int .i64 i], [(false, .vec .pair xs'), (true, .vec .pair ys)] => some (xs', (), ys, i)
    | _, _ => none
  inv := fun s0 s => Holds (s.1 = xs ∧ 0 ≤ s.2.2.2 ∧ s.2.2.2 ≤ xs.length ∧ s.2.2.1 = fill (fun e => Ty.ix .pair xs e) (List.replicate xs.length (Ty.dft .pair)) s.2.2.2.toNat)
  mu := fun s => ((xs.length : Int) - s.2.2.2).toNat
  ok := by
    intro v h s hg
    try dsimp only at hg
    split at hg <;> cases hg
    rfl

def L_lawsToPairS (xs : List Pair) : Loops := fun n => match n with
  | 3 => some (LSlawsToPairS xs)
  | _ => none
noncomputable def fs_lawsToPairS : Fs := ⟨[], fun args H => match args, H with
  | [.vec 0], [(false, .vec .pair xs)] => some ((some (xs.length ≤ 1048576)), .vec 1, [(false, .vec .pair xs), (true, .vec .pair xs)])
  | _, _ => none⟩

theorem vc_lawsToPairS (xs : List Pair) (Q : SV → List Ent → Prop) :
    fnVC tt (look [(178, fs_lawsToPair)]) (L_lawsToPairS xs) Tryz.f95 [.vec 0] [(false, .vec .pair xs)] Q =
    (((0 : Int) ≤ (↑(List.length xs) : Int) ∧ (↑(List.length xs) : Int) = (↑(List.length xs) : Int) ∧ Int.toNat (↑(List.length xs) : Int) * (16 : Nat) ≤ room) ∧ Holds (xs = xs ∧ (0 : Int) ≤ (0 : Int) ∧ (0 : Int) ≤ (↑(List.length xs) : Int) ∧ List.replicate (Int.toNat (↑(List.length xs) : Int)) (Pair.mk (0 : Int) (0 : Int)) = fill (fun e => Ty.ix Ty.pair xs e) (List.replicate (List.length xs) (Ty.dft Ty.pair)) (Int.toNat (0 : Int))) ∧ ∀ (x : List Pair × Unit × List Pair × Int), Holds (Prod.fst x = xs ∧ (0 : Int) ≤ Prod.snd (Prod.snd (Prod.snd x)) ∧ Prod.snd (Prod.snd (Prod.snd x)) ≤ (↑(List.length xs) : Int) ∧ Prod.fst (Prod.snd (Prod.snd x)) = fill (fun e => Ty.ix Ty.pair xs e) (List.replicate (List.length xs) (Ty.dft Ty.pair)) (Int.toNat (Prod.snd (Prod.snd (Prod.snd x))))) → ifB (decide (Prod.snd (Prod.snd (Prod.snd x)) < (↑(List.length (Prod.fst x)) : Int))) (((0 : Int) ≤ Prod.snd (Prod.snd (Prod.snd x)) ∧ Prod.snd (Prod.snd (Prod.snd x)) < (↑(List.length (Prod.fst x)) : Int)) ∧ ((0 : Int) ≤ Prod.snd (Prod.snd (Prod.snd x)) ∧ Prod.snd (Prod.snd (Prod.snd x)) < (↑(List.length (Prod.fst (Prod.snd (Prod.snd x)))) : Int)) ∧ Holds (Prod.fst x = xs ∧ (0 : Int) ≤ IntKind.wrap IntKind.i64 (Prod.snd (Prod.snd (Prod.snd x)) + (1 : Int)) ∧ IntKind.wrap IntKind.i64 (Prod.snd (Prod.snd (Prod.snd x)) + (1 : Int)) ≤ (↑(List.length xs) : Int) ∧ List.set (Prod.fst (Prod.snd (Prod.snd x))) (Int.toNat (Prod.snd (Prod.snd (Prod.snd x)))) (Ty.ix Ty.pair (Prod.fst x) (Int.toNat (Prod.snd (Prod.snd (Prod.snd x))))) = fill (fun e => Ty.ix Ty.pair xs e) (List.replicate (List.length xs) (Ty.dft Ty.pair)) (Int.toNat (IntKind.wrap IntKind.i64 (Prod.snd (Prod.snd (Prod.snd x)) + (1 : Int))))) ∧ Int.toNat ((↑(List.length xs) : Int) - IntKind.wrap IntKind.i64 (Prod.snd (Prod.snd (Prod.snd x)) + (1 : Int))) < Int.toNat ((↑(List.length xs) : Int) - Prod.snd (Prod.snd (Prod.snd x)))) (Q (SV.vec (1 : Nat)) [(false, Blk.vec Ty.pair (Prod.fst x)), (true, Blk.vec Ty.pair (Prod.fst (Prod.snd (Prod.snd x))))])) := by kernel_rfl

theorem ok_lawsToPairS : FsOk Tryz.prog 95 fs_lawsToPairS := fsOk_of tt_ok (tabFs_cons ok_lawsToPair tabFs_nil) mixed Tryz.func95 (by kernel_rfl) (by kernel_rfl) (by
    intro args LL p r HH h hp
    unfold fs_lawsToPairS at h
    dsimp only at h
    split at h
    case h_2 => cases h
    rename_i xs
    simp only [Option.some.injEq, Prod.mk.injEq] at h
    obtain ⟨rfl, rfl, rfl⟩ := h
    refine ⟨by simp [Form, stays], (L_lawsToPairS xs), ?_⟩
    rw [vc_lawsToPairS]
    try dsimp only
    have hb := hp _ rfl
    refine ⟨⟨by omega, rfl, by simp only [room]; omega⟩, ⟨rfl, by omega, by omega, ?_⟩, ?_⟩
    · simp only [Int.toNat_natCast]
      exact (fill_zero _ _).symm
    rintro ⟨xs', u, ys, i⟩ ⟨h⟩
    dsimp only at h ⊢
    obtain ⟨rfl, h0, h1, rfl⟩ := h
    have hf : (fill (fun e => Ty.ix .pair xs' e) (List.replicate xs'.length (Ty.dft .pair)) i.toNat).length = xs'.length := by rw [length_fill] <;> simp; omega
    refine ifB_of (fun c => ?_) (fun c => ?_)
    · have hi : i < xs'.length := of_decide_eq_true c
      have hw : IntKind.i64.wrap (i + 1) = i + 1 := wrap_small (by omega) (by omega)
      have e1 : (i + 1).toNat = i.toNat + 1 := by omega
      rw [hw, hf]
      refine ⟨⟨h0, hi⟩, ⟨h0, hi⟩, ⟨rfl, by omega, by omega, ?_⟩, by omega⟩
      rw [e1]
      exact fill_step (fun e => Ty.ix .pair xs' e) _ (by simp; omega)
    · have hi : ¬ i < xs'.length := of_decide_eq_false c
      rw [fill_end _ _ (by simp; omega), List.length_replicate, gen_ix]
      exact ⟨rfl, rfl⟩)

noncomputable def fs_lawsSzPairS : Fs := ⟨[], fun args H => match args, H with
  | [.vec 0, .int .i64 b], [(false, .vec .pair xs)] => some (none, .int .i64 (szLeft b xs.length), [(false, .vec .pair xs)])
  | _, _ => none⟩

theorem vc_lawsSzPairS (xs : List Pair) (b : Int) (Q : SV → List Ent → Prop) :
    fnVC tt (look []) L0 Tryz.f91 [.vec 0, .int .i64 b] [(false, .vec .pair xs)] Q =
    (ifB (decide (IntKind.wrap IntKind.i64 (b - (↑(List.length xs) : Int)) < (0 : Int))) (Q (SV.int IntKind.i64 (-1 : Int)) [(false, Blk.vec Ty.pair xs)]) (Q (SV.int IntKind.i64 (IntKind.wrap IntKind.i64 (b - (↑(List.length xs) : Int)))) [(false, Blk.vec Ty.pair xs)])) := by kernel_rfl

theorem ok_lawsSzPairS : FsOk Tryz.prog 91 fs_lawsSzPairS := fsOk_of tt_ok tabFs_nil mixed Tryz.func91 (by kernel_rfl) (by kernel_rfl) (by
    intro args LL p r HH h hp
    unfold fs_lawsSzPairS at h
    dsimp only at h
    split at h
    case h_2 => cases h
    rename_i b xs
    simp only [Option.some.injEq, Prod.mk.injEq] at h
    obtain ⟨rfl, rfl, rfl⟩ := h
    refine ⟨by simp [Form, stays], L0, ?_⟩
    rw [vc_lawsSzPairS]
    try dsimp only

    repeat' (first | refine ifB_of (fun _ => ?_) (fun _ => ?_) | refine pre_of ?_ (fun _ => ?_))
    all_goals first
      | rfl
      | (simp only [W, szLeft, *, cond_true, cond_false, Bool.true_and, Bool.false_and, Bool.and_true, Bool.and_false, Bool.not_true, Bool.not_false, and_self, true_and]; done)
      | (simp_all [W, szLeft]; done)
      | (simp_all [W, szLeft] <;> omega))

def LSlawsMarkPairS (k0 : Int) (xs : List Pair) : LS where
  S := List Pair × Unit × Int × Int
  live := [(0, [none]), (1, [none]), (5, [none])]
  shape := fun s => ([.vec 0, .int .i64 s.2.2.1, .int .i64 s.2.2.2], [(true, .vec .pair s.1)])
  get := fun v h => match v, h with
    | [.vec 0, .int .i64 k, .int .i64 i], [(true, .vec .pair ys)] => some (ys, (), k, i)
    | _, _ => none
  inv := fun s0 s => Holds (0 ≤ s.2.2.2 ∧ s.2.2.2 ≤ xs.length ∧ s.2.2.1 = k0 + 2 * s.2.2.2 ∧ s.1 = fill (fun e => mkPair (k0 + 2 * (e : Int))) xs s.2.2.2.toNat)
  mu := fun s => ((xs.length : Int) - s.2.2.2).toNat
  ok := by
    intro v h s hg
    try dsimp only at hg
    split at hg <;> cases hg
    rfl

def L_lawsMarkPairS (k0 : Int) (xs : List Pair) : Loops := fun n => match n with
  | 2 => some (LSlawsMarkPairS k0 xs)
  | _ => none
noncomputable def fs_lawsMarkPairS : Fs := ⟨[true], fun args H => match args, H with
  | [.vec 0, .int .i64 k], [(true, .vec .pair xs)] => some ((some (xs.length ≤ 1048576 ∧ 0 ≤ k ∧ k ≤ 1000000000000)), .int .i64 (k + 2 * xs.length), [(true, .vec .pair (gen (fun e => mkPair (k + 2 * (e : Int))) xs.length))])
  | _, _ => none⟩

theorem vc_lawsMarkPairS (xs : List Pair) (k : Int) (Q : SV → List Ent → Prop) :
    fnVC tt (look []) (L_lawsMarkPairS k xs) Tryz.f100 [.vec 0, .int .i64 k] [(true, .vec .pair xs)] Q =
    (Holds ((0 : Int) ≤ (0 : Int) ∧ (0 : Int) ≤ (↑(List.length xs) : Int) ∧ k = k + (2 : Int) * (0 : Int) ∧ xs = fill (fun e => mkPair (k + (2 : Int) * (↑e : Int))) xs (Int.toNat (0 : Int))) ∧ ∀ (x : List Pair × Unit × Int × Int), Holds ((0 : Int) ≤ Prod.snd (Prod.snd (Prod.snd x)) ∧ Prod.snd (Prod.snd (Prod.snd x)) ≤ (↑(List.length xs) : Int) ∧ Prod.fst (Prod.snd (Prod.snd x)) = k + (2 : Int) * Prod.snd (Prod.snd (Prod.snd x)) ∧ Prod.fst x = fill (fun e => mkPair (k + (2 : Int) * (↑e : Int))) xs (Int.toNat (Prod.snd (Prod.snd (Prod.snd x))))) → ifB (decide (Prod.snd (Prod.snd (Prod.snd x)) < (↑(List.length (Prod.fst x)) : Int))) (((0 : Int) ≤ Prod.snd (Prod.snd (Prod.snd x)) ∧ Prod.snd (Prod.snd (Prod.snd x)) < (↑(List.length (Prod.fst x)) : Int)) ∧ ((0 : Int) ≤ Prod.snd (Prod.snd (Prod.snd x)) ∧ Prod.snd (Prod.snd (Prod.snd x)) < (↑(List.length (setC Ty.pair (Prod.fst x) (Int.toNat (Prod.snd (Prod.snd (Prod.snd x)))) ((0 : Nat) + (0 : Nat)) [SV.int IntKind.i64 (Prod.fst (Prod.snd (Prod.snd x)))])) : Int)) ∧ Holds ((0 : Int) ≤ IntKind.wrap IntKind.i64 (Prod.snd (Prod.snd (Prod.snd x)) + (1 : Int)) ∧ IntKind.wrap IntKind.i64 (Prod.snd (Prod.snd (Prod.snd x)) + (1 : Int)) ≤ (↑(List.length xs) : Int) ∧ IntKind.wrap IntKind.i64 (IntKind.wrap IntKind.i64 (Prod.fst (Prod.snd (Prod.snd x)) + (1 : Int)) + (1 : Int)) = k + (2 : Int) * IntKind.wrap IntKind.i64 (Prod.snd (Prod.snd (Prod.snd x)) + (1 : Int)) ∧ setC Ty.pair (setC Ty.pair (Prod.fst x) (Int.toNat (Prod.snd (Prod.snd (Prod.snd x)))) ((0 : Nat) + (0 : Nat)) [SV.int IntKind.i64 (Prod.fst (Prod.snd (Prod.snd x)))]) (Int.toNat (Prod.snd (Prod.snd (Prod.snd x)))) ((0 : Nat) + (1 : Nat)) [SV.int IntKind.i64 (IntKind.wrap IntKind.i64 (Prod.fst (Prod.snd (Prod.snd x)) + (1 : Int)))] = fill (fun e => mkPair (k + (2 : Int) * (↑e : Int))) xs (Int.toNat (IntKind.wrap IntKind.i64 (Prod.snd (Prod.snd (Prod.snd x)) + (1 : Int))))) ∧ Int.toNat ((↑(List.length xs) : Int) - IntKind.wrap IntKind.i64 (Prod.snd (Prod.snd (Prod.snd x)) + (1 : Int))) < Int.toNat ((↑(List.length xs) : Int) - Prod.snd (Prod.snd (Prod.snd x)))) (Q (SV.int IntKind.i64 (Prod.fst (Prod.snd (Prod.snd x)))) [(true, Blk.vec Ty.pair (Prod.fst x))])) := by kernel_rfl

theorem ok_lawsMarkPairS : FsOk Tryz.prog 100 fs_lawsMarkPairS := fsOk_of tt_ok tabFs_nil mixed Tryz.func100 (by kernel_rfl) (by kernel_rfl) (by
    intro args LL p r HH h hp
    unfold fs_lawsMarkPairS at h
    dsimp only at h
    split at h
    case h_2 => cases h
    rename_i k xs
    simp only [Option.some.injEq, Prod.mk.injEq] at h
    obtain ⟨rfl, rfl, rfl⟩ := h
    refine ⟨by simp [Form, stays], (L_lawsMarkPairS k xs), ?_⟩
    rw [vc_lawsMarkPairS]
    try dsimp only
    obtain ⟨hb, hk0, hk1⟩ := hp _ rfl
    refine ⟨⟨by omega, by omega, by omega, (fill_zero _ _).symm⟩, ?_⟩
    rintro ⟨ys, u, k', i⟩ ⟨h⟩
    dsimp only at h ⊢
    obtain ⟨h0, h1, rfl, h2⟩ := h
    have hf : ys.length = xs.length := by rw [h2]; exact length_fill _ _ (by omega)
    simp only [length_setC_pair, List.length_set, hf]
    refine ifB_of (fun c => ?_) (fun c => ?_)
    · have hi : i < xs.length := of_decide_eq_true c
      have e1 : (i + 1).toNat = i.toNat + 1 := by omega
      have hlt : i.toNat < ys.length := by omega
      have hy : ys.set i.toNat (mkPair (k + 2 * i)) = fill (fun e => mkPair (k + 2 * (e : Int))) xs (i.toNat + 1) := by
        rw [h2, ← fill_step _ _ (by omega), show ((i.toNat : Nat) : Int) = i by omega]
      simp (disch := omega) only [wrap_small, e1, ← hy]
      repeat' (first | refine pre_of ⟨h0, hi⟩ (fun _ => ?_) | fail)
      refine ⟨⟨by omega, by omega, by omega, ?_⟩, by omega⟩
      (simp (disch := omega) only [Nat.reduceAdd, setC_pair0, setC_pair1, ix_set_self_pair, List.set_set, List.length_set]; rfl)
    · have hi : ¬ i < xs.length := of_decide_eq_false c
      rw [h2, fill_end _ _ (by omega)]
      refine ⟨?_, rfl⟩
      congr 1
      omega)

def LSlawsHeldPairS (k0 : Int) (xs : List Pair) : LS where
  S := List Pair × Unit × Int × Int
  live := [(0, [none]), (1, [none]), (5, [none])]
  shape := fun s => ([.vec 0, .int .i64 s.2.2.1, .int .i64 s.2.2.2], [(false, .vec .pair s.1)])
  get := fun v h => match v, h with
    | [.vec 0, .int .i64 k, .int .i64 i], [(false, .vec .pair xs')] => some (xs', (), k, i)
    | _, _ => none
  inv := fun s0 s => Holds (s.1 = xs ∧ 0 ≤ s.2.2.2 ∧ s.2.2.2 ≤ xs.length ∧ s.2.2.1 = k0 + 2 * s.2.2.2 ∧ xs.take s.2.2.2.toNat = (gen (fun e => mkPair (k0 + 2 * (e : Int))) xs.length).take s.2.2.2.toNat)
  mu := fun s => ((xs.length : Int) - s.2.2.2).toNat
  ok := by
    intro v h s hg
    try dsimp only at hg
    split at hg <;> cases hg
    rfl

def L_lawsHeldPairS (k0 : Int) (xs : List Pair) : Loops := fun n => match n with
  | 2 => some (LSlawsHeldPairS k0 xs)
  | _ => none
noncomputable def fs_lawsHeldPairS : Fs := ⟨[], fun args H => match args, H with
  | [.vec 0, .int .i64 k], [(false, .vec .pair xs)] => some ((some (xs.length ≤ 1048576 ∧ 0 ≤ k ∧ k ≤ 1000000000000)), .int .i64 (bif same xs (gen (fun e => mkPair (k + 2 * (e : Int))) xs.length) then k + 2 * xs.length else -1), [(false, .vec .pair xs)])
  | _, _ => none⟩

theorem vc_lawsHeldPairS (xs : List Pair) (k : Int) (Q : SV → List Ent → Prop) :
    fnVC tt (look []) (L_lawsHeldPairS k xs) Tryz.f101 [.vec 0, .int .i64 k] [(false, .vec .pair xs)] Q =
    (Holds (xs = xs ∧ (0 : Int) ≤ (0 : Int) ∧ (0 : Int) ≤ (↑(List.length xs) : Int) ∧ k = k + (2 : Int) * (0 : Int) ∧ List.take (Int.toNat (0 : Int)) xs = List.take (Int.toNat (0 : Int)) (gen (fun e => mkPair (k + (2 : Int) * (↑e : Int))) (List.length xs))) ∧ ∀ (x : List Pair × Unit × Int × Int), Holds (Prod.fst x = xs ∧ (0 : Int) ≤ Prod.snd (Prod.snd (Prod.snd x)) ∧ Prod.snd (Prod.snd (Prod.snd x)) ≤ (↑(List.length xs) : Int) ∧ Prod.fst (Prod.snd (Prod.snd x)) = k + (2 : Int) * Prod.snd (Prod.snd (Prod.snd x)) ∧ List.take (Int.toNat (Prod.snd (Prod.snd (Prod.snd x)))) xs = List.take (Int.toNat (Prod.snd (Prod.snd (Prod.snd x)))) (gen (fun e => mkPair (k + (2 : Int) * (↑e : Int))) (List.length xs))) → ifB (decide (Prod.snd (Prod.snd (Prod.snd x)) < (↑(List.length (Prod.fst x)) : Int))) (((0 : Int) ≤ Prod.snd (Prod.snd (Prod.snd x)) ∧ Prod.snd (Prod.snd (Prod.snd x)) < (↑(List.length (Prod.fst x)) : Int)) ∧ ifB (Pair.A (Ty.ix Ty.pair (Prod.fst x) (Int.toNat (Prod.snd (Prod.snd (Prod.snd x))))) != Prod.fst (Prod.snd (Prod.snd x))) (Q (SV.int IntKind.i64 (-1 : Int)) [(false, Blk.vec Ty.pair (Prod.fst x))]) (((0 : Int) ≤ Prod.snd (Prod.snd (Prod.snd x)) ∧ Prod.snd (Prod.snd (Prod.snd x)) < (↑(List.length (Prod.fst x)) : Int)) ∧ ifB (Pair.B (Ty.ix Ty.pair (Prod.fst x) (Int.toNat (Prod.snd (Prod.snd (Prod.snd x))))) != IntKind.wrap IntKind.i64 (Prod.fst (Prod.snd (Prod.snd x)) + (1 : Int))) (Q (SV.int IntKind.i64 (-1 : Int)) [(false, Blk.vec Ty.pair (Prod.fst x))]) (Holds (Prod.fst x = xs ∧ (0 : Int) ≤ IntKind.wrap IntKind.i64 (Prod.snd (Prod.snd (Prod.snd x)) + (1 : Int)) ∧ IntKind.wrap IntKind.i64 (Prod.snd (Prod.snd (Prod.snd x)) + (1 : Int)) ≤ (↑(List.length xs) : Int) ∧ IntKind.wrap IntKind.i64 (IntKind.wrap IntKind.i64 (Prod.fst (Prod.snd (Prod.snd x)) + (1 : Int)) + (1 : Int)) = k + (2 : Int) * IntKind.wrap IntKind.i64 (Prod.snd (Prod.snd (Prod.snd x)) + (1 : Int)) ∧ List.take (Int.toNat (IntKind.wrap IntKind.i64 (Prod.snd (Prod.snd (Prod.snd x)) + (1 : Int)))) xs = List.take (Int.toNat (IntKind.wrap IntKind.i64 (Prod.snd (Prod.snd (Prod.snd x)) + (1 : Int)))) (gen (fun e => mkPair (k + (2 : Int) * (↑e : Int))) (List.length xs))) ∧ Int.toNat ((↑(List.length xs) : Int) - IntKind.wrap IntKind.i64 (Prod.snd (Prod.snd (Prod.snd x)) + (1 : Int))) < Int.toNat ((↑(List.length xs) : Int) - Prod.snd (Prod.snd (Prod.snd x)))))) (Q (SV.int IntKind.i64 (Prod.fst (Prod.snd (Prod.snd x)))) [(false, Blk.vec Ty.pair (Prod.fst x))])) := by kernel_rfl

theorem ok_lawsHeldPairS : FsOk Tryz.prog 101 fs_lawsHeldPairS := fsOk_of tt_ok tabFs_nil mixed Tryz.func101 (by kernel_rfl) (by kernel_rfl) (by
    intro args LL p r HH h hp
    unfold fs_lawsHeldPairS at h
    dsimp only at h
    split at h
    case h_2 => cases h
    rename_i k xs
    simp only [Option.some.injEq, Prod.mk.injEq] at h
    obtain ⟨rfl, rfl, rfl⟩ := h
    refine ⟨by simp [Form, stays], (L_lawsHeldPairS k xs), ?_⟩
    rw [vc_lawsHeldPairS]
    try dsimp only
    obtain ⟨hb, hk0, hk1⟩ := hp _ rfl
    refine ⟨⟨rfl, by omega, by omega, by omega, rfl⟩, ?_⟩
    rintro ⟨xs', u, k', i⟩ ⟨h⟩
    dsimp only at h ⊢
    obtain ⟨rfl, h0, h1, rfl, h3⟩ := h
    refine ifB_of (fun c => ?_) (fun c => ?_)
    · have hi : i < xs'.length := of_decide_eq_true c
      have hn : ((i.toNat : Nat) : Int) = i := by omega
      have e1 : (i + 1).toNat = i.toNat + 1 := by omega
      simp (disch := omega) only [wrap_small, e1]
      have bad : ∀ P : Prop, Ty.ix .pair xs' i.toNat ≠ mkPair (k + 2 * i) → (.int .i64 (-1) : SV) = .int .i64 (bif same xs' (gen (fun e => mkPair (k + 2 * (e : Int))) xs'.length) then k + 2 * xs'.length else -1) := fun _ h => by
        rw [heldBad (T := .pair) (i := i.toNat) (by omega) (by rw [hn]; exact h)]
        rfl
      have good : Ty.ix .pair xs' i.toNat = mkPair (k + 2 * i) → xs'.take (i.toNat + 1) = (gen (fun e => mkPair (k + 2 * (e : Int))) xs'.length).take (i.toNat + 1) := fun h => by
        refine take_succ_eq (T := .pair) (by omega) (by simp; omega) h3 ?_
        rw [ix_gen (T := .pair) (by omega), hn]
        exact h
      generalize Ty.ix .pair xs' i.toNat = x at bad good ⊢
      repeat' (first | refine ifB_of (fun _ => ?_) (fun _ => ?_) | refine pre_of ⟨h0, hi⟩ (fun _ => ?_) | fail)
      all_goals first
        | (refine ⟨bad True ?_, by trivial⟩
           rintro rfl
           simp_all [mkPair])
        | (refine ⟨⟨by trivial, by omega, by omega, by omega, good ?_⟩, by omega⟩
           rename_i b0 q0 b1 q1
           exact (eqPair_iff _ _).1 ⟨by simpa [mkPair] using q0, by simpa [mkPair] using q1⟩)
    · have hi : ¬ i < xs'.length := of_decide_eq_false c
      have e0 : i.toNat = xs'.length := by omega
      rw [e0] at h3
      have e1 := eq_of_take (Nat.le_refl _) (by simp) h3
      rw [same_tt e1]
      refine ⟨?_, rfl⟩
      simp only [cond_true]
      congr 1
      omega)

def LSlawsEqBodyS (xs : List Body) (ys : List Body) : LS where
  S := List Body × List Body × Unit × Unit × Int
  live := [(0, [none]), (1, [none]), (5, [none])]
  shape := fun s => ([.vec 0, .vec 1, .int .i64 s.2.2.2.2], [(false, .vec .body s.1), (false, .vec .body s.2.1)])
  get := fun v h => match v, h with
    | [.vec 0, .vec 1, .int .i64 i], [(false, .vec .body xs'), (false, .vec .body ys')] => some (xs', ys', (), (), i)
    | _, _ => none
  inv := fun s0 s => Holds (s.1 = xs ∧ s.2.1 = ys ∧ 0 ≤ s.2.2.2.2 ∧ s.2.2.2.2 ≤ xs.length ∧ xs.take s.2.2.2.2.toNat = ys.take s.2.2.2.2.toNat)
  mu := fun s => ((xs.length : Int) - s.2.2.2.2).toNat
  ok := by
    intro v h s hg
    try dsimp only at hg
    split at hg <;> cases hg
    rfl

def L_lawsEqBodyS (xs ys : List Body) : Loops := fun n => match n with
  | 4 => some (LSlawsEqBodyS xs ys)
  | _ => none
noncomputable def fs_lawsEqBodyS : Fs := ⟨[], fun args H => match args, H with
  | [.vec 0, .vec 1], [(false, .vec .body xs), (false, .vec .body ys)] => some ((some (xs.length ≤ 4611686018427387904)), .bool (same xs ys), [(false, .vec .body xs), (false, .vec .body ys)])
  | _, _ => none⟩

theorem vc_lawsEqBodyS (xs : List Body) (ys : List Body) (Q : SV → List Ent → Prop) :
    fnVC tt (look [(89, fs_lawsEqBody)]) (L_lawsEqBodyS xs ys) Tryz.f18 [.vec 0, .vec 1] [(false, .vec .body xs), (false, .vec .body ys)] Q =
    (ifB ((↑(List.length xs) : Int) != (↑(List.length ys) : Int)) (Q (SV.bool false) [(false, Blk.vec Ty.body xs), (false, Blk.vec Ty.body ys)]) (Holds (xs = xs ∧ ys = ys ∧ (0 : Int) ≤ (0 : Int) ∧ (0 : Int) ≤ (↑(List.length xs) : Int) ∧ List.take (Int.toNat (0 : Int)) xs = List.take (Int.toNat (0 : Int)) ys) ∧ ∀ (x : List Body × List Body × Unit × Unit × Int), Holds (Prod.fst x = xs ∧ Prod.fst (Prod.snd x) = ys ∧ (0 : Int) ≤ Prod.snd (Prod.snd (Prod.snd (Prod.snd x))) ∧ Prod.snd (Prod.snd (Prod.snd (Prod.snd x))) ≤ (↑(List.length xs) : Int) ∧ List.take (Int.toNat (Prod.snd (Prod.snd (Prod.snd (Prod.snd x))))) xs = List.take (Int.toNat (Prod.snd (Prod.snd (Prod.snd (Prod.snd x))))) ys) → ifB (decide (Prod.snd (Prod.snd (Prod.snd (Prod.snd x))) < (↑(List.length (Prod.fst x)) : Int))) (((0 : Int) ≤ Prod.snd (Prod.snd (Prod.snd (Prod.snd x))) ∧ Prod.snd (Prod.snd (Prod.snd (Prod.snd x))) < (↑(List.length (Prod.fst x)) : Int)) ∧ ((0 : Int) ≤ Prod.snd (Prod.snd (Prod.snd (Prod.snd x))) ∧ Prod.snd (Prod.snd (Prod.snd (Prod.snd x))) < (↑(List.length (Prod.fst (Prod.snd x))) : Int)) ∧ ifB (!same (Ty.ix Ty.body (Prod.fst x) (Int.toNat (Prod.snd (Prod.snd (Prod.snd (Prod.snd x)))))) (Ty.ix Ty.body (Prod.fst (Prod.snd x)) (Int.toNat (Prod.snd (Prod.snd (Prod.snd (Prod.snd x))))))) (Q (SV.bool false) [(false, Blk.vec Ty.body (Prod.fst x)), (false, Blk.vec Ty.body (Prod.fst (Prod.snd x)))]) (Holds (Prod.fst x = xs ∧ Prod.fst (Prod.snd x) = ys ∧ (0 : Int) ≤ IntKind.wrap IntKind.i64 (Prod.snd (Prod.snd (Prod.snd (Prod.snd x))) + (1 : Int)) ∧ IntKind.wrap IntKind.i64 (Prod.snd (Prod.snd (Prod.snd (Prod.snd x))) + (1 : Int)) ≤ (↑(List.length xs) : Int) ∧ List.take (Int.toNat (IntKind.wrap IntKind.i64 (Prod.snd (Prod.snd (Prod.snd (Prod.snd x))) + (1 : Int)))) xs = List.take (Int.toNat (IntKind.wrap IntKind.i64 (Prod.snd (Prod.snd (Prod.snd (Prod.snd x))) + (1 : Int)))) ys) ∧ Int.toNat ((↑(List.length xs) : Int) - IntKind.wrap IntKind.i64 (Prod.snd (Prod.snd (Prod.snd (Prod.snd x))) + (1 : Int))) < Int.toNat ((↑(List.length xs) : Int) - Prod.snd (Prod.snd (Prod.snd (Prod.snd x)))))) (Q (SV.bool true) [(false, Blk.vec Ty.body (Prod.fst x)), (false, Blk.vec Ty.body (Prod.fst (Prod.snd x)))]))) := by kernel_rfl

theorem ok_lawsEqBodyS : FsOk Tryz.prog 18 fs_lawsEqBodyS := fsOk_of tt_ok (tabFs_cons ok_lawsEqBody tabFs_nil) mixed Tryz.func18 (by kernel_rfl) (by kernel_rfl) (by
    intro args LL p r HH h hp
    unfold fs_lawsEqBodyS at h
    dsimp only at h
    split at h
    case h_2 => cases h
    rename_i xs ys
    simp only [Option.some.injEq, Prod.mk.injEq] at h
    obtain ⟨rfl, rfl, rfl⟩ := h
    refine ⟨by simp [Form, stays], (L_lawsEqBodyS xs ys), ?_⟩
    rw [vc_lawsEqBodyS]
    try dsimp only
    have hb := hp _ rfl
    refine ifB_of (fun c => ?_) (fun c => ?_)
    · have c : (xs.length : Int) ≠ ys.length := by simpa using c
      rw [same_ff (fun e => c (by rw [e]))]
      exact ⟨rfl, rfl⟩
    have hl : xs.length = ys.length := by
      have : (xs.length : Int) = ys.length := by simpa using c
      omega
    refine ⟨⟨rfl, rfl, by omega, by omega, rfl⟩, ?_⟩
    rintro ⟨xs', ys', u, v, i⟩ ⟨h⟩
    obtain ⟨rfl, rfl, h0, h1, h3⟩ := h
    dsimp only at hb hl h0 h1 h3 ⊢
    refine ifB_of (fun c => ?_) (fun c => ?_)
    · have hi : i < xs'.length := of_decide_eq_true c
      have hw : IntKind.i64.wrap (i + 1) = i + 1 := wrap_small (by omega) (by omega)
      rw [hw]
      refine ⟨⟨h0, hi⟩, ⟨h0, by omega⟩, ?_⟩
      refine ifB_of (fun c => ?_) (fun c => ?_)
      · have c : Ty.ix .body xs' i.toNat ≠ Ty.ix .body ys' i.toNat := by simpa [same_iff_ff] using c
        rw [same_ff (fun e => c (by rw [e]))]
        exact ⟨rfl, rfl⟩
      · have c : Ty.ix .body xs' i.toNat = Ty.ix .body ys' i.toNat := by simpa [same_iff] using c
        have e1 : (i + 1).toNat = i.toNat + 1 := by omega
        refine ⟨⟨rfl, rfl, by omega, by omega, ?_⟩, by omega⟩
        rw [e1]
        exact take_succ_eq (T := .body) (by omega) (by omega) h3 c
    · have hi : ¬ i < xs'.length := of_decide_eq_false c
      have : xs' = ys' := eq_of_take (by omega) (by omega) h3
      subst this
      rw [same_self]
      exact ⟨rfl, rfl⟩)

theorem eqBody_iff (u v : Body) : (u.Id = v.Id ∧ u.Shape.Kind = v.Shape.Kind ∧ u.Shape.Wide = v.Shape.Wide ∧ u.Shape.High = v.Shape.High ∧ u.At.X = v.At.X ∧ u.At.Y = v.At.Y ∧ u.Drive.X = v.Drive.X ∧ u.Drive.Y = v.Drive.Y ∧ u.Mass = v.Mass ∧ u.Bounce = v.Bounce ∧ u.Rub = v.Rub ∧ u.Quiet = v.Quiet) ↔ u = v := by
  constructor
  · intro q
    obtain ⟨a, ⟨b, c, d⟩, ⟨e, f⟩, ⟨g, h⟩, i, j, k, l⟩ := u
    obtain ⟨a, ⟨b, c, d⟩, ⟨e, f⟩, ⟨g, h⟩, i, j, k, l⟩ := v
    simp_all
  · rintro rfl
    simp
def LSlawsToBodyS (xs : List Body) : LS where
  S := List Body × Unit × List Body × Int
  live := [(0, [none]), (3, [some .body]), (4, [none])]
  shape := fun s => ([.vec 0, .vec 1, .int .i64 s.2.2.2], [(false, .vec .body s.1), (true, .vec .body s.2.2.1)])
  get := fun v h => match v, h with
    | [.vec 0, .vec 1, .int .i64 i], [(false, .vec .body xs'), (true, .vec .body ys)] => some (xs', (), ys, i)
    | _, _ => none
  inv := fun s0 s => Holds (s.1 = xs ∧ 0 ≤ s.2.2.2 ∧ s.2.2.2 ≤ xs.length ∧ s.2.2.1 = fill (fun e => Ty.ix .body xs e) (List.replicate xs.length (Ty.dft .body)) s.2.2.2.toNat)
  mu := fun s => ((xs.length : Int) - s.2.2.2).toNat
  ok := by
    intro v h s hg
    try dsimp only at hg
    split at hg <;> cases hg
    rfl

def L_lawsToBodyS (xs : List Body) : Loops := fun n => match n with
  | 3 => some (LSlawsToBodyS xs)
  | _ => none
noncomputable def fs_lawsToBodyS : Fs := ⟨[], fun args H => match args, H with
  | [.vec 0], [(false, .vec .body xs)] => some ((some (xs.length ≤ 1048576)), .vec 1, [(false, .vec .body xs), (true, .vec .body xs)])
  | _, _ => none⟩

theorem vc_lawsToBodyS (xs : List Body) (Q : SV → List Ent → Prop) :
    fnVC tt (look [(76, fs_lawsToBody)]) (L_lawsToBodyS xs) Tryz.f16 [.vec 0] [(false, .vec .body xs)] Q =
    (((0 : Int) ≤ (↑(List.length xs) : Int) ∧ (↑(List.length xs) : Int) = (↑(List.length xs) : Int) ∧ Int.toNat (↑(List.length xs) : Int) * (96 : Nat) ≤ room) ∧ Holds (xs = xs ∧ (0 : Int) ≤ (0 : Int) ∧ (0 : Int) ≤ (↑(List.length xs) : Int) ∧ List.replicate (Int.toNat (↑(List.length xs) : Int)) (Body.mk (0 : Int) (Shape.mk (0 : Int) (0 : Int) (0 : Int)) (Vec.mk (0 : Int) (0 : Int)) (Vec.mk (0 : Int) (0 : Int)) (0 : Int) (0 : Int) (0 : Int) (0 : Int)) = fill (fun e => Ty.ix Ty.body xs e) (List.replicate (List.length xs) (Ty.dft Ty.body)) (Int.toNat (0 : Int))) ∧ ∀ (x : List Body × Unit × List Body × Int), Holds (Prod.fst x = xs ∧ (0 : Int) ≤ Prod.snd (Prod.snd (Prod.snd x)) ∧ Prod.snd (Prod.snd (Prod.snd x)) ≤ (↑(List.length xs) : Int) ∧ Prod.fst (Prod.snd (Prod.snd x)) = fill (fun e => Ty.ix Ty.body xs e) (List.replicate (List.length xs) (Ty.dft Ty.body)) (Int.toNat (Prod.snd (Prod.snd (Prod.snd x))))) → ifB (decide (Prod.snd (Prod.snd (Prod.snd x)) < (↑(List.length (Prod.fst x)) : Int))) (((0 : Int) ≤ Prod.snd (Prod.snd (Prod.snd x)) ∧ Prod.snd (Prod.snd (Prod.snd x)) < (↑(List.length (Prod.fst x)) : Int)) ∧ ((0 : Int) ≤ Prod.snd (Prod.snd (Prod.snd x)) ∧ Prod.snd (Prod.snd (Prod.snd x)) < (↑(List.length (Prod.fst (Prod.snd (Prod.snd x)))) : Int)) ∧ Holds (Prod.fst x = xs ∧ (0 : Int) ≤ IntKind.wrap IntKind.i64 (Prod.snd (Prod.snd (Prod.snd x)) + (1 : Int)) ∧ IntKind.wrap IntKind.i64 (Prod.snd (Prod.snd (Prod.snd x)) + (1 : Int)) ≤ (↑(List.length xs) : Int) ∧ List.set (Prod.fst (Prod.snd (Prod.snd x))) (Int.toNat (Prod.snd (Prod.snd (Prod.snd x)))) (Ty.ix Ty.body (Prod.fst x) (Int.toNat (Prod.snd (Prod.snd (Prod.snd x))))) = fill (fun e => Ty.ix Ty.body xs e) (List.replicate (List.length xs) (Ty.dft Ty.body)) (Int.toNat (IntKind.wrap IntKind.i64 (Prod.snd (Prod.snd (Prod.snd x)) + (1 : Int))))) ∧ Int.toNat ((↑(List.length xs) : Int) - IntKind.wrap IntKind.i64 (Prod.snd (Prod.snd (Prod.snd x)) + (1 : Int))) < Int.toNat ((↑(List.length xs) : Int) - Prod.snd (Prod.snd (Prod.snd x)))) (Q (SV.vec (1 : Nat)) [(false, Blk.vec Ty.body (Prod.fst x)), (true, Blk.vec Ty.body (Prod.fst (Prod.snd (Prod.snd x))))])) := by kernel_rfl

theorem ok_lawsToBodyS : FsOk Tryz.prog 16 fs_lawsToBodyS := fsOk_of tt_ok (tabFs_cons ok_lawsToBody tabFs_nil) mixed Tryz.func16 (by kernel_rfl) (by kernel_rfl) (by
    intro args LL p r HH h hp
    unfold fs_lawsToBodyS at h
    dsimp only at h
    split at h
    case h_2 => cases h
    rename_i xs
    simp only [Option.some.injEq, Prod.mk.injEq] at h
    obtain ⟨rfl, rfl, rfl⟩ := h
    refine ⟨by simp [Form, stays], (L_lawsToBodyS xs), ?_⟩
    rw [vc_lawsToBodyS]
    try dsimp only
    have hb := hp _ rfl
    refine ⟨⟨by omega, rfl, by simp only [room]; omega⟩, ⟨rfl, by omega, by omega, ?_⟩, ?_⟩
    · simp only [Int.toNat_natCast]
      exact (fill_zero _ _).symm
    rintro ⟨xs', u, ys, i⟩ ⟨h⟩
    dsimp only at h ⊢
    obtain ⟨rfl, h0, h1, rfl⟩ := h
    have hf : (fill (fun e => Ty.ix .body xs' e) (List.replicate xs'.length (Ty.dft .body)) i.toNat).length = xs'.length := by rw [length_fill] <;> simp; omega
    refine ifB_of (fun c => ?_) (fun c => ?_)
    · have hi : i < xs'.length := of_decide_eq_true c
      have hw : IntKind.i64.wrap (i + 1) = i + 1 := wrap_small (by omega) (by omega)
      have e1 : (i + 1).toNat = i.toNat + 1 := by omega
      rw [hw, hf]
      refine ⟨⟨h0, hi⟩, ⟨h0, hi⟩, ⟨rfl, by omega, by omega, ?_⟩, by omega⟩
      rw [e1]
      exact fill_step (fun e => Ty.ix .body xs' e) _ (by simp; omega)
    · have hi : ¬ i < xs'.length := of_decide_eq_false c
      rw [fill_end _ _ (by simp; omega), List.length_replicate, gen_ix]
      exact ⟨rfl, rfl⟩)

noncomputable def fs_lawsSzBodyS : Fs := ⟨[], fun args H => match args, H with
  | [.vec 0, .int .i64 b], [(false, .vec .body xs)] => some (none, .int .i64 (szLeft b xs.length), [(false, .vec .body xs)])
  | _, _ => none⟩

theorem vc_lawsSzBodyS (xs : List Body) (b : Int) (Q : SV → List Ent → Prop) :
    fnVC tt (look []) L0 Tryz.f14 [.vec 0, .int .i64 b] [(false, .vec .body xs)] Q =
    (ifB (decide (IntKind.wrap IntKind.i64 (b - (↑(List.length xs) : Int)) < (0 : Int))) (Q (SV.int IntKind.i64 (-1 : Int)) [(false, Blk.vec Ty.body xs)]) (Q (SV.int IntKind.i64 (IntKind.wrap IntKind.i64 (b - (↑(List.length xs) : Int)))) [(false, Blk.vec Ty.body xs)])) := by kernel_rfl

theorem ok_lawsSzBodyS : FsOk Tryz.prog 14 fs_lawsSzBodyS := fsOk_of tt_ok tabFs_nil mixed Tryz.func14 (by kernel_rfl) (by kernel_rfl) (by
    intro args LL p r HH h hp
    unfold fs_lawsSzBodyS at h
    dsimp only at h
    split at h
    case h_2 => cases h
    rename_i b xs
    simp only [Option.some.injEq, Prod.mk.injEq] at h
    obtain ⟨rfl, rfl, rfl⟩ := h
    refine ⟨by simp [Form, stays], L0, ?_⟩
    rw [vc_lawsSzBodyS]
    try dsimp only

    repeat' (first | refine ifB_of (fun _ => ?_) (fun _ => ?_) | refine pre_of ?_ (fun _ => ?_))
    all_goals first
      | rfl
      | (simp only [W, szLeft, *, cond_true, cond_false, Bool.true_and, Bool.false_and, Bool.and_true, Bool.and_false, Bool.not_true, Bool.not_false, and_self, true_and]; done)
      | (simp_all [W, szLeft]; done)
      | (simp_all [W, szLeft] <;> omega))

def LSlawsMarkBodyS (k0 : Int) (xs : List Body) : LS where
  S := List Body × Unit × Int × Int
  live := [(0, [none]), (1, [none]), (5, [none])]
  shape := fun s => ([.vec 0, .int .i64 s.2.2.1, .int .i64 s.2.2.2], [(true, .vec .body s.1)])
  get := fun v h => match v, h with
    | [.vec 0, .int .i64 k, .int .i64 i], [(true, .vec .body ys)] => some (ys, (), k, i)
    | _, _ => none
  inv := fun s0 s => Holds (0 ≤ s.2.2.2 ∧ s.2.2.2 ≤ xs.length ∧ s.2.2.1 = k0 + 12 * s.2.2.2 ∧ s.1 = fill (fun e => mkBody (k0 + 12 * (e : Int))) xs s.2.2.2.toNat)
  mu := fun s => ((xs.length : Int) - s.2.2.2).toNat
  ok := by
    intro v h s hg
    try dsimp only at hg
    split at hg <;> cases hg
    rfl

def L_lawsMarkBodyS (k0 : Int) (xs : List Body) : Loops := fun n => match n with
  | 2 => some (LSlawsMarkBodyS k0 xs)
  | _ => none
noncomputable def fs_lawsMarkBodyS : Fs := ⟨[true], fun args H => match args, H with
  | [.vec 0, .int .i64 k], [(true, .vec .body xs)] => some ((some (xs.length ≤ 1048576 ∧ 0 ≤ k ∧ k ≤ 1000000000000)), .int .i64 (k + 12 * xs.length), [(true, .vec .body (gen (fun e => mkBody (k + 12 * (e : Int))) xs.length))])
  | _, _ => none⟩

theorem vc_lawsMarkBodyS (xs : List Body) (k : Int) (Q : SV → List Ent → Prop) :
    fnVC tt (look []) (L_lawsMarkBodyS k xs) Tryz.f19 [.vec 0, .int .i64 k] [(true, .vec .body xs)] Q =
    (let w_ := IntKind.wrap IntKind.i64; let s_ := SV.int IntKind.i64; let n_ := Int.toNat; Holds ((0 : Int) ≤ (0 : Int) ∧ (0 : Int) ≤ (↑(List.length xs) : Int) ∧ k = k + (12 : Int) * (0 : Int) ∧ xs = fill (fun e => mkBody (k + (12 : Int) * (↑e : Int))) xs (n_ (0 : Int))) ∧ ∀ (y1 : List Body × Unit × Int × Int), let y1f0_ := Prod.fst y1; let y1s1_ := Prod.snd y1; let y1s2_ := Prod.snd (Prod.snd y1); let y1f2_ := Prod.fst (Prod.snd (Prod.snd y1)); let y1s3_ := Prod.snd (Prod.snd (Prod.snd y1)); let A16_ := (Prod.snd y1s2_ + (1 : Int)); let A11_ := (w_ (Prod.fst y1s2_ + (1 : Int)) + (1 : Int)); let A7_ := (setC Ty.body (setC Ty.body y1f0_ (n_ y1s3_) ((0 : Nat) + (0 : Nat)) [s_ y1f2_]) (n_ y1s3_) ((0 : Nat) + (1 : Nat) + (0 : Nat)) [s_ (w_ (Prod.fst y1s2_ + (1 : Int)))]); let A12_ := (setC Ty.body A7_ (n_ y1s3_) ((0 : Nat) + (1 : Nat) + (1 : Nat)) [s_ (w_ A11_)]); let A6_ := (w_ (w_ A11_ + (1 : Int)) + (1 : Int)); let A4_ := (setC Ty.body A12_ (n_ y1s3_) ((0 : Nat) + (1 : Nat) + (2 : Nat)) [s_ (w_ (w_ A11_ + (1 : Int)))]); let A13_ := (setC Ty.body A4_ (n_ y1s3_) ((0 : Nat) + (4 : Nat) + (0 : Nat)) [s_ (w_ A6_)]); let A9_ := (setC Ty.body A13_ (n_ y1s3_) ((0 : Nat) + (4 : Nat) + (1 : Nat)) [s_ (w_ (w_ A6_ + (1 : Int)))]); let A3_ := (w_ (w_ (w_ A6_ + (1 : Int)) + (1 : Int)) + (1 : Int)); let A8_ := (w_ (w_ (w_ A3_ + (1 : Int)) + (1 : Int)) + (1 : Int)); let A2_ := (setC Ty.body A9_ (n_ y1s3_) ((0 : Nat) + (6 : Nat) + (0 : Nat)) [s_ (w_ (w_ (w_ A6_ + (1 : Int)) + (1 : Int)))]); let A14_ := (setC Ty.body A2_ (n_ y1s3_) ((0 : Nat) + (6 : Nat) + (1 : Nat)) [s_ (w_ A3_)]); let A10_ := (setC Ty.body A14_ (n_ y1s3_) ((0 : Nat) + (8 : Nat)) [s_ (w_ (w_ A3_ + (1 : Int)))]); let A5_ := (setC Ty.body A10_ (n_ y1s3_) ((0 : Nat) + (9 : Nat)) [s_ (w_ (w_ (w_ A3_ + (1 : Int)) + (1 : Int)))]); let A15_ := (setC Ty.body A5_ (n_ y1s3_) ((0 : Nat) + (10 : Nat)) [s_ (w_ A8_)]); Holds ((0 : Int) ≤ y1s3_ ∧ y1s3_ ≤ (↑(List.length xs) : Int) ∧ y1f2_ = k + (12 : Int) * y1s3_ ∧ y1f0_ = fill (fun e => mkBody (k + (12 : Int) * (↑e : Int))) xs (n_ y1s3_)) → ifB (decide (Prod.snd y1s2_ < (↑(List.length y1f0_) : Int))) (((0 : Int) ≤ y1s3_ ∧ y1s3_ < (↑(List.length y1f0_) : Int)) ∧ ((0 : Int) ≤ y1s3_ ∧ y1s3_ < (↑(List.length (setC Ty.body y1f0_ (n_ y1s3_) ((0 : Nat) + (0 : Nat)) [s_ y1f2_])) : Int)) ∧ ((0 : Int) ≤ y1s3_ ∧ y1s3_ < (↑(List.length A7_) : Int)) ∧ ((0 : Int) ≤ y1s3_ ∧ y1s3_ < (↑(List.length A12_) : Int)) ∧ ((0 : Int) ≤ y1s3_ ∧ y1s3_ < (↑(List.length A4_) : Int)) ∧ ((0 : Int) ≤ y1s3_ ∧ y1s3_ < (↑(List.length A13_) : Int)) ∧ ((0 : Int) ≤ y1s3_ ∧ y1s3_ < (↑(List.length A9_) : Int)) ∧ ((0 : Int) ≤ y1s3_ ∧ y1s3_ < (↑(List.length A2_) : Int)) ∧ ((0 : Int) ≤ y1s3_ ∧ y1s3_ < (↑(List.length A14_) : Int)) ∧ ((0 : Int) ≤ y1s3_ ∧ y1s3_ < (↑(List.length A10_) : Int)) ∧ ((0 : Int) ≤ y1s3_ ∧ y1s3_ < (↑(List.length A5_) : Int)) ∧ ((0 : Int) ≤ y1s3_ ∧ y1s3_ < (↑(List.length A15_) : Int)) ∧ Holds ((0 : Int) ≤ w_ A16_ ∧ w_ A16_ ≤ (↑(List.length xs) : Int) ∧ w_ (w_ (w_ A8_ + (1 : Int)) + (1 : Int)) = k + (12 : Int) * w_ A16_ ∧ setC Ty.body A15_ (n_ y1s3_) ((0 : Nat) + (11 : Nat)) [s_ (w_ (w_ A8_ + (1 : Int)))] = fill (fun e => mkBody (k + (12 : Int) * (↑e : Int))) xs (n_ (w_ A16_))) ∧ n_ ((↑(List.length xs) : Int) - w_ A16_) < n_ ((↑(List.length xs) : Int) - y1s3_)) (Q (s_ y1f2_) [(true, Blk.vec Ty.body y1f0_)])) := by kernel_rfl

theorem ok_lawsMarkBodyS : FsOk Tryz.prog 19 fs_lawsMarkBodyS := fsOk_of tt_ok tabFs_nil mixed Tryz.func19 (by kernel_rfl) (by kernel_rfl) (by
    intro args LL p r HH h hp
    unfold fs_lawsMarkBodyS at h
    dsimp only at h
    split at h
    case h_2 => cases h
    rename_i k xs
    simp only [Option.some.injEq, Prod.mk.injEq] at h
    obtain ⟨rfl, rfl, rfl⟩ := h
    refine ⟨by simp [Form, stays], (L_lawsMarkBodyS k xs), ?_⟩
    rw [vc_lawsMarkBodyS]
    try dsimp only
    obtain ⟨hb, hk0, hk1⟩ := hp _ rfl
    refine ⟨⟨by omega, by omega, by omega, (fill_zero _ _).symm⟩, ?_⟩
    rintro ⟨ys, u, k', i⟩ ⟨h⟩
    dsimp only at h ⊢
    obtain ⟨h0, h1, rfl, h2⟩ := h
    have hf : ys.length = xs.length := by rw [h2]; exact length_fill _ _ (by omega)
    simp only [length_setC_body, List.length_set, hf]
    refine ifB_of (fun c => ?_) (fun c => ?_)
    · have hi : i < xs.length := of_decide_eq_true c
      have e1 : (i + 1).toNat = i.toNat + 1 := by omega
      have hlt : i.toNat < ys.length := by omega
      have hy : ys.set i.toNat (mkBody (k + 12 * i)) = fill (fun e => mkBody (k + 12 * (e : Int))) xs (i.toNat + 1) := by
        rw [h2, ← fill_step _ _ (by omega), show ((i.toNat : Nat) : Int) = i by omega]
      simp (disch := omega) only [wrap_small, e1, ← hy]
      repeat' (first | refine pre_of ⟨h0, hi⟩ (fun _ => ?_) | fail)
      refine ⟨⟨by omega, by omega, by omega, ?_⟩, by omega⟩
      (simp (disch := omega) only [Nat.reduceAdd, setC_body0, setC_body1, setC_body2, setC_body3, setC_body4, setC_body5, setC_body6, setC_body7, setC_body8, setC_body9, setC_body10, setC_body11, ix_set_self_body, List.set_set, List.length_set]; rfl)
    · have hi : ¬ i < xs.length := of_decide_eq_false c
      rw [h2, fill_end _ _ (by omega)]
      refine ⟨?_, rfl⟩
      congr 1
      omega)

def LSlawsHeldBodyS (k0 : Int) (xs : List Body) : LS where
  S := List Body × Unit × Int × Int
  live := [(0, [none]), (1, [none]), (5, [none])]
  shape := fun s => ([.vec 0, .int .i64 s.2.2.1, .int .i64 s.2.2.2], [(false, .vec .body s.1)])
  get := fun v h => match v, h with
    | [.vec 0, .int .i64 k, .int .i64 i], [(false, .vec .body xs')] => some (xs', (), k, i)
    | _, _ => none
  inv := fun s0 s => Holds (s.1 = xs ∧ 0 ≤ s.2.2.2 ∧ s.2.2.2 ≤ xs.length ∧ s.2.2.1 = k0 + 12 * s.2.2.2 ∧ xs.take s.2.2.2.toNat = (gen (fun e => mkBody (k0 + 12 * (e : Int))) xs.length).take s.2.2.2.toNat)
  mu := fun s => ((xs.length : Int) - s.2.2.2).toNat
  ok := by
    intro v h s hg
    try dsimp only at hg
    split at hg <;> cases hg
    rfl

def L_lawsHeldBodyS (k0 : Int) (xs : List Body) : Loops := fun n => match n with
  | 2 => some (LSlawsHeldBodyS k0 xs)
  | _ => none
noncomputable def fs_lawsHeldBodyS : Fs := ⟨[], fun args H => match args, H with
  | [.vec 0, .int .i64 k], [(false, .vec .body xs)] => some ((some (xs.length ≤ 1048576 ∧ 0 ≤ k ∧ k ≤ 1000000000000)), .int .i64 (bif same xs (gen (fun e => mkBody (k + 12 * (e : Int))) xs.length) then k + 12 * xs.length else -1), [(false, .vec .body xs)])
  | _, _ => none⟩

theorem vc_lawsHeldBodyS (xs : List Body) (k : Int) (Q : SV → List Ent → Prop) :
    fnVC tt (look []) (L_lawsHeldBodyS k xs) Tryz.f20 [.vec 0, .int .i64 k] [(false, .vec .body xs)] Q =
    (let w_ := IntKind.wrap IntKind.i64; let s_ := SV.int IntKind.i64; let n_ := Int.toNat; Holds (xs = xs ∧ (0 : Int) ≤ (0 : Int) ∧ (0 : Int) ≤ (↑(List.length xs) : Int) ∧ k = k + (12 : Int) * (0 : Int) ∧ List.take (n_ (0 : Int)) xs = List.take (n_ (0 : Int)) (gen (fun e => mkBody (k + (12 : Int) * (↑e : Int))) (List.length xs))) ∧ ∀ (y1 : List Body × Unit × Int × Int), let y1f0_ := Prod.fst y1; let y1s1_ := Prod.snd y1; let y1s2_ := Prod.snd (Prod.snd y1); let y1f2_ := Prod.fst (Prod.snd (Prod.snd y1)); let y1s3_ := Prod.snd (Prod.snd (Prod.snd y1)); let A8_ := (Prod.snd y1s2_ + (1 : Int)); let A7_ := (↑(List.length y1f0_) : Int); let A6_ := (w_ (w_ (Prod.fst y1s2_ + (1 : Int)) + (1 : Int)) + (1 : Int)); let A5_ := (false, Blk.vec Ty.body y1f0_); let A3_ := (Ty.ix Ty.body y1f0_ (n_ y1s3_)); let A2_ := (w_ (w_ (w_ A6_ + (1 : Int)) + (1 : Int)) + (1 : Int)); let A4_ := (w_ (w_ (w_ A2_ + (1 : Int)) + (1 : Int)) + (1 : Int)); Holds (Prod.fst y1 = xs ∧ (0 : Int) ≤ y1s3_ ∧ y1s3_ ≤ (↑(List.length xs) : Int) ∧ y1f2_ = k + (12 : Int) * y1s3_ ∧ List.take (n_ y1s3_) xs = List.take (n_ y1s3_) (gen (fun e => mkBody (k + (12 : Int) * (↑e : Int))) (List.length xs))) → ifB (decide (Prod.snd y1s2_ < A7_)) (((0 : Int) ≤ y1s3_ ∧ y1s3_ < A7_) ∧ ifB (Body.Id A3_ != y1f2_) (Q (s_ (-1 : Int)) [A5_]) (((0 : Int) ≤ y1s3_ ∧ y1s3_ < A7_) ∧ ifB (Shape.Kind (Body.Shape A3_) != w_ (Prod.fst y1s2_ + (1 : Int))) (Q (s_ (-1 : Int)) [A5_]) (((0 : Int) ≤ y1s3_ ∧ y1s3_ < A7_) ∧ ifB (Shape.Wide (Body.Shape A3_) != w_ (w_ (Prod.fst y1s2_ + (1 : Int)) + (1 : Int))) (Q (s_ (-1 : Int)) [A5_]) (((0 : Int) ≤ y1s3_ ∧ y1s3_ < A7_) ∧ ifB (Shape.High (Body.Shape A3_) != w_ A6_) (Q (s_ (-1 : Int)) [A5_]) (((0 : Int) ≤ y1s3_ ∧ y1s3_ < A7_) ∧ ifB (Vec.X (Body.At A3_) != w_ (w_ A6_ + (1 : Int))) (Q (s_ (-1 : Int)) [A5_]) (((0 : Int) ≤ y1s3_ ∧ y1s3_ < A7_) ∧ ifB (Vec.Y (Body.At A3_) != w_ (w_ (w_ A6_ + (1 : Int)) + (1 : Int))) (Q (s_ (-1 : Int)) [A5_]) (((0 : Int) ≤ y1s3_ ∧ y1s3_ < A7_) ∧ ifB (Vec.X (Body.Drive A3_) != w_ A2_) (Q (s_ (-1 : Int)) [A5_]) (((0 : Int) ≤ y1s3_ ∧ y1s3_ < A7_) ∧ ifB (Vec.Y (Body.Drive A3_) != w_ (w_ A2_ + (1 : Int))) (Q (s_ (-1 : Int)) [A5_]) (((0 : Int) ≤ y1s3_ ∧ y1s3_ < A7_) ∧ ifB (Body.Mass A3_ != w_ (w_ (w_ A2_ + (1 : Int)) + (1 : Int))) (Q (s_ (-1 : Int)) [A5_]) (((0 : Int) ≤ y1s3_ ∧ y1s3_ < A7_) ∧ ifB (Body.Bounce A3_ != w_ A4_) (Q (s_ (-1 : Int)) [A5_]) (((0 : Int) ≤ y1s3_ ∧ y1s3_ < A7_) ∧ ifB (Body.Rub A3_ != w_ (w_ A4_ + (1 : Int))) (Q (s_ (-1 : Int)) [A5_]) (((0 : Int) ≤ y1s3_ ∧ y1s3_ < A7_) ∧ ifB (Body.Quiet A3_ != w_ (w_ (w_ A4_ + (1 : Int)) + (1 : Int))) (Q (s_ (-1 : Int)) [A5_]) (Holds (Prod.fst y1 = xs ∧ (0 : Int) ≤ w_ A8_ ∧ w_ A8_ ≤ (↑(List.length xs) : Int) ∧ w_ (w_ (w_ (w_ A4_ + (1 : Int)) + (1 : Int)) + (1 : Int)) = k + (12 : Int) * w_ A8_ ∧ List.take (n_ (w_ A8_)) xs = List.take (n_ (w_ A8_)) (gen (fun e => mkBody (k + (12 : Int) * (↑e : Int))) (List.length xs))) ∧ n_ ((↑(List.length xs) : Int) - w_ A8_) < n_ ((↑(List.length xs) : Int) - y1s3_)))))))))))))) (Q (s_ y1f2_) [A5_])) := by kernel_rfl

theorem ok_lawsHeldBodyS : FsOk Tryz.prog 20 fs_lawsHeldBodyS := fsOk_of tt_ok tabFs_nil mixed Tryz.func20 (by kernel_rfl) (by kernel_rfl) (by
    intro args LL p r HH h hp
    unfold fs_lawsHeldBodyS at h
    dsimp only at h
    split at h
    case h_2 => cases h
    rename_i k xs
    simp only [Option.some.injEq, Prod.mk.injEq] at h
    obtain ⟨rfl, rfl, rfl⟩ := h
    refine ⟨by simp [Form, stays], (L_lawsHeldBodyS k xs), ?_⟩
    rw [vc_lawsHeldBodyS]
    try dsimp only
    obtain ⟨hb, hk0, hk1⟩ := hp _ rfl
    refine ⟨⟨rfl, by omega, by omega, by omega, rfl⟩, ?_⟩
    rintro ⟨xs', u, k', i⟩ ⟨h⟩
    dsimp only at h ⊢
    obtain ⟨rfl, h0, h1, rfl, h3⟩ := h
    refine ifB_of (fun c => ?_) (fun c => ?_)
    · have hi : i < xs'.length := of_decide_eq_true c
      have hn : ((i.toNat : Nat) : Int) = i := by omega
      have e1 : (i + 1).toNat = i.toNat + 1 := by omega
      simp (disch := omega) only [wrap_small, e1]
      have bad : ∀ P : Prop, Ty.ix .body xs' i.toNat ≠ mkBody (k + 12 * i) → (.int .i64 (-1) : SV) = .int .i64 (bif same xs' (gen (fun e => mkBody (k + 12 * (e : Int))) xs'.length) then k + 12 * xs'.length else -1) := fun _ h => by
        rw [heldBad (T := .body) (i := i.toNat) (by omega) (by rw [hn]; exact h)]
        rfl
      have good : Ty.ix .body xs' i.toNat = mkBody (k + 12 * i) → xs'.take (i.toNat + 1) = (gen (fun e => mkBody (k + 12 * (e : Int))) xs'.length).take (i.toNat + 1) := fun h => by
        refine take_succ_eq (T := .body) (by omega) (by simp; omega) h3 ?_
        rw [ix_gen (T := .body) (by omega), hn]
        exact h
      generalize Ty.ix .body xs' i.toNat = x at bad good ⊢
      repeat' (first | refine ifB_of (fun _ => ?_) (fun _ => ?_) | refine pre_of ⟨h0, hi⟩ (fun _ => ?_) | fail)
      all_goals first
        | (refine ⟨bad True ?_, by trivial⟩
           rintro rfl
           simp_all [mkBody])
        | (refine ⟨⟨by trivial, by omega, by omega, by omega, good ?_⟩, by omega⟩
           rename_i b0 q0 b1 q1 b2 q2 b3 q3 b4 q4 b5 q5 b6 q6 b7 q7 b8 q8 b9 q9 b10 q10 b11 q11
           exact (eqBody_iff _ _).1 ⟨by simpa [mkBody] using q0, by simpa [mkBody] using q1, by simpa [mkBody] using q2, by simpa [mkBody] using q3, by simpa [mkBody] using q4, by simpa [mkBody] using q5, by simpa [mkBody] using q6, by simpa [mkBody] using q7, by simpa [mkBody] using q8, by simpa [mkBody] using q9, by simpa [mkBody] using q10, by simpa [mkBody] using q11⟩)
    · have hi : ¬ i < xs'.length := of_decide_eq_false c
      have e0 : i.toNat = xs'.length := by omega
      rw [e0] at h3
      have e1 := eq_of_take (Nat.le_refl _) (by simp) h3
      rw [same_tt e1]
      refine ⟨?_, rfl⟩
      simp only [cond_true]
      congr 1
      omega)

def LSlawsEqEventS (xs : List Event) (ys : List Event) : LS where
  S := List Event × List Event × Unit × Unit × Int
  live := [(0, [none]), (1, [none]), (5, [none])]
  shape := fun s => ([.vec 0, .vec 1, .int .i64 s.2.2.2.2], [(false, .vec .event s.1), (false, .vec .event s.2.1)])
  get := fun v h => match v, h with
    | [.vec 0, .vec 1, .int .i64 i], [(false, .vec .event xs'), (false, .vec .event ys')] => some (xs', ys', (), (), i)
    | _, _ => none
  inv := fun s0 s => Holds (s.1 = xs ∧ s.2.1 = ys ∧ 0 ≤ s.2.2.2.2 ∧ s.2.2.2.2 ≤ xs.length ∧ xs.take s.2.2.2.2.toNat = ys.take s.2.2.2.2.toNat)
  mu := fun s => ((xs.length : Int) - s.2.2.2.2).toNat
  ok := by
    intro v h s hg
    try dsimp only at hg
    split at hg <;> cases hg
    rfl

def L_lawsEqEventS (xs ys : List Event) : Loops := fun n => match n with
  | 4 => some (LSlawsEqEventS xs ys)
  | _ => none
noncomputable def fs_lawsEqEventS : Fs := ⟨[], fun args H => match args, H with
  | [.vec 0, .vec 1], [(false, .vec .event xs), (false, .vec .event ys)] => some ((some (xs.length ≤ 4611686018427387904)), .bool (same xs ys), [(false, .vec .event xs), (false, .vec .event ys)])
  | _, _ => none⟩

theorem vc_lawsEqEventS (xs : List Event) (ys : List Event) (Q : SV → List Ent → Prop) :
    fnVC tt (look [(99, fs_lawsEqEvent)]) (L_lawsEqEventS xs ys) Tryz.f28 [.vec 0, .vec 1] [(false, .vec .event xs), (false, .vec .event ys)] Q =
    (ifB ((↑(List.length xs) : Int) != (↑(List.length ys) : Int)) (Q (SV.bool false) [(false, Blk.vec Ty.event xs), (false, Blk.vec Ty.event ys)]) (Holds (xs = xs ∧ ys = ys ∧ (0 : Int) ≤ (0 : Int) ∧ (0 : Int) ≤ (↑(List.length xs) : Int) ∧ List.take (Int.toNat (0 : Int)) xs = List.take (Int.toNat (0 : Int)) ys) ∧ ∀ (x : List Event × List Event × Unit × Unit × Int), Holds (Prod.fst x = xs ∧ Prod.fst (Prod.snd x) = ys ∧ (0 : Int) ≤ Prod.snd (Prod.snd (Prod.snd (Prod.snd x))) ∧ Prod.snd (Prod.snd (Prod.snd (Prod.snd x))) ≤ (↑(List.length xs) : Int) ∧ List.take (Int.toNat (Prod.snd (Prod.snd (Prod.snd (Prod.snd x))))) xs = List.take (Int.toNat (Prod.snd (Prod.snd (Prod.snd (Prod.snd x))))) ys) → ifB (decide (Prod.snd (Prod.snd (Prod.snd (Prod.snd x))) < (↑(List.length (Prod.fst x)) : Int))) (((0 : Int) ≤ Prod.snd (Prod.snd (Prod.snd (Prod.snd x))) ∧ Prod.snd (Prod.snd (Prod.snd (Prod.snd x))) < (↑(List.length (Prod.fst x)) : Int)) ∧ ((0 : Int) ≤ Prod.snd (Prod.snd (Prod.snd (Prod.snd x))) ∧ Prod.snd (Prod.snd (Prod.snd (Prod.snd x))) < (↑(List.length (Prod.fst (Prod.snd x))) : Int)) ∧ ifB (!same (Ty.ix Ty.event (Prod.fst x) (Int.toNat (Prod.snd (Prod.snd (Prod.snd (Prod.snd x)))))) (Ty.ix Ty.event (Prod.fst (Prod.snd x)) (Int.toNat (Prod.snd (Prod.snd (Prod.snd (Prod.snd x))))))) (Q (SV.bool false) [(false, Blk.vec Ty.event (Prod.fst x)), (false, Blk.vec Ty.event (Prod.fst (Prod.snd x)))]) (Holds (Prod.fst x = xs ∧ Prod.fst (Prod.snd x) = ys ∧ (0 : Int) ≤ IntKind.wrap IntKind.i64 (Prod.snd (Prod.snd (Prod.snd (Prod.snd x))) + (1 : Int)) ∧ IntKind.wrap IntKind.i64 (Prod.snd (Prod.snd (Prod.snd (Prod.snd x))) + (1 : Int)) ≤ (↑(List.length xs) : Int) ∧ List.take (Int.toNat (IntKind.wrap IntKind.i64 (Prod.snd (Prod.snd (Prod.snd (Prod.snd x))) + (1 : Int)))) xs = List.take (Int.toNat (IntKind.wrap IntKind.i64 (Prod.snd (Prod.snd (Prod.snd (Prod.snd x))) + (1 : Int)))) ys) ∧ Int.toNat ((↑(List.length xs) : Int) - IntKind.wrap IntKind.i64 (Prod.snd (Prod.snd (Prod.snd (Prod.snd x))) + (1 : Int))) < Int.toNat ((↑(List.length xs) : Int) - Prod.snd (Prod.snd (Prod.snd (Prod.snd x)))))) (Q (SV.bool true) [(false, Blk.vec Ty.event (Prod.fst x)), (false, Blk.vec Ty.event (Prod.fst (Prod.snd x)))]))) := by kernel_rfl

theorem ok_lawsEqEventS : FsOk Tryz.prog 28 fs_lawsEqEventS := fsOk_of tt_ok (tabFs_cons ok_lawsEqEvent tabFs_nil) mixed Tryz.func28 (by kernel_rfl) (by kernel_rfl) (by
    intro args LL p r HH h hp
    unfold fs_lawsEqEventS at h
    dsimp only at h
    split at h
    case h_2 => cases h
    rename_i xs ys
    simp only [Option.some.injEq, Prod.mk.injEq] at h
    obtain ⟨rfl, rfl, rfl⟩ := h
    refine ⟨by simp [Form, stays], (L_lawsEqEventS xs ys), ?_⟩
    rw [vc_lawsEqEventS]
    try dsimp only
    have hb := hp _ rfl
    refine ifB_of (fun c => ?_) (fun c => ?_)
    · have c : (xs.length : Int) ≠ ys.length := by simpa using c
      rw [same_ff (fun e => c (by rw [e]))]
      exact ⟨rfl, rfl⟩
    have hl : xs.length = ys.length := by
      have : (xs.length : Int) = ys.length := by simpa using c
      omega
    refine ⟨⟨rfl, rfl, by omega, by omega, rfl⟩, ?_⟩
    rintro ⟨xs', ys', u, v, i⟩ ⟨h⟩
    obtain ⟨rfl, rfl, h0, h1, h3⟩ := h
    dsimp only at hb hl h0 h1 h3 ⊢
    refine ifB_of (fun c => ?_) (fun c => ?_)
    · have hi : i < xs'.length := of_decide_eq_true c
      have hw : IntKind.i64.wrap (i + 1) = i + 1 := wrap_small (by omega) (by omega)
      rw [hw]
      refine ⟨⟨h0, hi⟩, ⟨h0, by omega⟩, ?_⟩
      refine ifB_of (fun c => ?_) (fun c => ?_)
      · have c : Ty.ix .event xs' i.toNat ≠ Ty.ix .event ys' i.toNat := by simpa [same_iff_ff] using c
        rw [same_ff (fun e => c (by rw [e]))]
        exact ⟨rfl, rfl⟩
      · have c : Ty.ix .event xs' i.toNat = Ty.ix .event ys' i.toNat := by simpa [same_iff] using c
        have e1 : (i + 1).toNat = i.toNat + 1 := by omega
        refine ⟨⟨rfl, rfl, by omega, by omega, ?_⟩, by omega⟩
        rw [e1]
        exact take_succ_eq (T := .event) (by omega) (by omega) h3 c
    · have hi : ¬ i < xs'.length := of_decide_eq_false c
      have : xs' = ys' := eq_of_take (by omega) (by omega) h3
      subst this
      rw [same_self]
      exact ⟨rfl, rfl⟩)

def LSlawsMarkEventS (k0 : Int) (xs : List Event) : LS where
  S := List Event × Unit × Int × Int
  live := [(0, [none]), (1, [none]), (5, [none])]
  shape := fun s => ([.vec 0, .int .i64 s.2.2.1, .int .i64 s.2.2.2], [(true, .vec .event s.1)])
  get := fun v h => match v, h with
    | [.vec 0, .int .i64 k, .int .i64 i], [(true, .vec .event ys)] => some (ys, (), k, i)
    | _, _ => none
  inv := fun s0 s => Holds (0 ≤ s.2.2.2 ∧ s.2.2.2 ≤ xs.length ∧ s.2.2.1 = k0 + 3 * s.2.2.2 ∧ s.1 = fill (fun e => mkEvent (k0 + 3 * (e : Int))) xs s.2.2.2.toNat)
  mu := fun s => ((xs.length : Int) - s.2.2.2).toNat
  ok := by
    intro v h s hg
    try dsimp only at hg
    split at hg <;> cases hg
    rfl

def L_lawsMarkEventS (k0 : Int) (xs : List Event) : Loops := fun n => match n with
  | 2 => some (LSlawsMarkEventS k0 xs)
  | _ => none
noncomputable def fs_lawsMarkEventS : Fs := ⟨[true], fun args H => match args, H with
  | [.vec 0, .int .i64 k], [(true, .vec .event xs)] => some ((some (xs.length ≤ 1048576 ∧ 0 ≤ k ∧ k ≤ 1000000000000)), .int .i64 (k + 3 * xs.length), [(true, .vec .event (gen (fun e => mkEvent (k + 3 * (e : Int))) xs.length))])
  | _, _ => none⟩

theorem vc_lawsMarkEventS (xs : List Event) (k : Int) (Q : SV → List Ent → Prop) :
    fnVC tt (look []) (L_lawsMarkEventS k xs) Tryz.f30 [.vec 0, .int .i64 k] [(true, .vec .event xs)] Q =
    (let w_ := IntKind.wrap IntKind.i64; let n_ := Int.toNat; Holds ((0 : Int) ≤ (0 : Int) ∧ (0 : Int) ≤ (↑(List.length xs) : Int) ∧ k = k + (3 : Int) * (0 : Int) ∧ xs = fill (fun e => mkEvent (k + (3 : Int) * (↑e : Int))) xs (n_ (0 : Int))) ∧ ∀ (y1 : List Event × Unit × Int × Int), let y1f0_ := Prod.fst y1; let y1s1_ := Prod.snd y1; let y1s2_ := Prod.snd (Prod.snd y1); let y1f2_ := Prod.fst (Prod.snd (Prod.snd y1)); let y1s3_ := Prod.snd (Prod.snd (Prod.snd y1)); let A4_ := (Prod.snd y1s2_ + (1 : Int)); let A3_ := (setC Ty.event y1f0_ (n_ y1s3_) ((0 : Nat) + (0 : Nat)) [SV.bool (Int.tmod y1f2_ (3 : Int) == (0 : Int))]); let A2_ := (setC Ty.event A3_ (n_ y1s3_) ((0 : Nat) + (1 : Nat) + (0 : Nat)) [SV.int IntKind.i64 (w_ (Prod.fst y1s2_ + (1 : Int)))]); Holds ((0 : Int) ≤ y1s3_ ∧ y1s3_ ≤ (↑(List.length xs) : Int) ∧ y1f2_ = k + (3 : Int) * y1s3_ ∧ y1f0_ = fill (fun e => mkEvent (k + (3 : Int) * (↑e : Int))) xs (n_ y1s3_)) → ifB (decide (Prod.snd y1s2_ < (↑(List.length y1f0_) : Int))) (((0 : Int) ≤ y1s3_ ∧ y1s3_ < (↑(List.length y1f0_) : Int)) ∧ ((0 : Int) ≤ y1s3_ ∧ y1s3_ < (↑(List.length A3_) : Int)) ∧ ((0 : Int) ≤ y1s3_ ∧ y1s3_ < (↑(List.length A2_) : Int)) ∧ Holds ((0 : Int) ≤ w_ A4_ ∧ w_ A4_ ≤ (↑(List.length xs) : Int) ∧ w_ (w_ (w_ (Prod.fst y1s2_ + (1 : Int)) + (1 : Int)) + (1 : Int)) = k + (3 : Int) * w_ A4_ ∧ setC Ty.event A2_ (n_ y1s3_) ((0 : Nat) + (1 : Nat) + (1 : Nat)) [SV.int IntKind.i64 (w_ (w_ (Prod.fst y1s2_ + (1 : Int)) + (1 : Int)))] = fill (fun e => mkEvent (k + (3 : Int) * (↑e : Int))) xs (n_ (w_ A4_))) ∧ n_ ((↑(List.length xs) : Int) - w_ A4_) < n_ ((↑(List.length xs) : Int) - y1s3_)) (Q (SV.int IntKind.i64 y1f2_) [(true, Blk.vec Ty.event y1f0_)])) := by kernel_rfl

theorem ok_lawsMarkEventS : FsOk Tryz.prog 30 fs_lawsMarkEventS := fsOk_of tt_ok tabFs_nil mixed Tryz.func30 (by kernel_rfl) (by kernel_rfl) (by
    intro args LL p r HH h hp
    unfold fs_lawsMarkEventS at h
    dsimp only at h
    split at h
    case h_2 => cases h
    rename_i k xs
    simp only [Option.some.injEq, Prod.mk.injEq] at h
    obtain ⟨rfl, rfl, rfl⟩ := h
    refine ⟨by simp [Form, stays], (L_lawsMarkEventS k xs), ?_⟩
    rw [vc_lawsMarkEventS]
    try dsimp only
    obtain ⟨hb, hk0, hk1⟩ := hp _ rfl
    refine ⟨⟨by omega, by omega, by omega, (fill_zero _ _).symm⟩, ?_⟩
    rintro ⟨ys, u, k', i⟩ ⟨h⟩
    dsimp only at h ⊢
    obtain ⟨h0, h1, rfl, h2⟩ := h
    have hf : ys.length = xs.length := by rw [h2]; exact length_fill _ _ (by omega)
    simp only [length_setC_event, List.length_set, hf]
    refine ifB_of (fun c => ?_) (fun c => ?_)
    · have hi : i < xs.length := of_decide_eq_true c
      have e1 : (i + 1).toNat = i.toNat + 1 := by omega
      have hlt : i.toNat < ys.length := by omega
      have hy : ys.set i.toNat (mkEvent (k + 3 * i)) = fill (fun e => mkEvent (k + 3 * (e : Int))) xs (i.toNat + 1) := by
        rw [h2, ← fill_step _ _ (by omega), show ((i.toNat : Nat) : Int) = i by omega]
      simp (disch := omega) only [wrap_small, e1, ← hy]
      repeat' (first | refine pre_of ⟨h0, hi⟩ (fun _ => ?_) | fail)
      refine ⟨⟨by omega, by omega, by omega, ?_⟩, by omega⟩
      (simp (disch := omega) only [Nat.reduceAdd, setC_event0, setC_event1, setC_event2, ix_set_self_event, List.set_set, List.length_set]; rfl)
    · have hi : ¬ i < xs.length := of_decide_eq_false c
      rw [h2, fill_end _ _ (by omega)]
      refine ⟨?_, rfl⟩
      congr 1
      omega)

def LSlawsHeldEventS (k0 : Int) (xs : List Event) : LS where
  S := List Event × Unit × Int × Int
  live := [(0, [none]), (1, [none]), (5, [none])]
  shape := fun s => ([.vec 0, .int .i64 s.2.2.1, .int .i64 s.2.2.2], [(false, .vec .event s.1)])
  get := fun v h => match v, h with
    | [.vec 0, .int .i64 k, .int .i64 i], [(false, .vec .event xs')] => some (xs', (), k, i)
    | _, _ => none
  inv := fun s0 s => Holds (s.1 = xs ∧ 0 ≤ s.2.2.2 ∧ s.2.2.2 ≤ xs.length ∧ s.2.2.1 = k0 + 3 * s.2.2.2 ∧ xs.take s.2.2.2.toNat = (gen (fun e => mkEvent (k0 + 3 * (e : Int))) xs.length).take s.2.2.2.toNat)
  mu := fun s => ((xs.length : Int) - s.2.2.2).toNat
  ok := by
    intro v h s hg
    try dsimp only at hg
    split at hg <;> cases hg
    rfl

def L_lawsHeldEventS (k0 : Int) (xs : List Event) : Loops := fun n => match n with
  | 2 => some (LSlawsHeldEventS k0 xs)
  | _ => none
noncomputable def fs_lawsHeldEventS : Fs := ⟨[], fun args H => match args, H with
  | [.vec 0, .int .i64 k], [(false, .vec .event xs)] => some ((some (xs.length ≤ 1048576 ∧ 0 ≤ k ∧ k ≤ 1000000000000)), .int .i64 (bif same xs (gen (fun e => mkEvent (k + 3 * (e : Int))) xs.length) then k + 3 * xs.length else -1), [(false, .vec .event xs)])
  | _, _ => none⟩

theorem vc_lawsHeldEventS (xs : List Event) (k : Int) (Q : SV → List Ent → Prop) :
    fnVC tt (look []) (L_lawsHeldEventS k xs) Tryz.f32 [.vec 0, .int .i64 k] [(false, .vec .event xs)] Q =
    (Holds (xs = xs ∧ (0 : Int) ≤ (0 : Int) ∧ (0 : Int) ≤ (↑(List.length xs) : Int) ∧ k = k + (3 : Int) * (0 : Int) ∧ List.take (Int.toNat (0 : Int)) xs = List.take (Int.toNat (0 : Int)) (gen (fun e => mkEvent (k + (3 : Int) * (↑e : Int))) (List.length xs))) ∧ ∀ (x : List Event × Unit × Int × Int), Holds (Prod.fst x = xs ∧ (0 : Int) ≤ Prod.snd (Prod.snd (Prod.snd x)) ∧ Prod.snd (Prod.snd (Prod.snd x)) ≤ (↑(List.length xs) : Int) ∧ Prod.fst (Prod.snd (Prod.snd x)) = k + (3 : Int) * Prod.snd (Prod.snd (Prod.snd x)) ∧ List.take (Int.toNat (Prod.snd (Prod.snd (Prod.snd x)))) xs = List.take (Int.toNat (Prod.snd (Prod.snd (Prod.snd x)))) (gen (fun e => mkEvent (k + (3 : Int) * (↑e : Int))) (List.length xs))) → ifB (decide (Prod.snd (Prod.snd (Prod.snd x)) < (↑(List.length (Prod.fst x)) : Int))) (((0 : Int) ≤ Prod.snd (Prod.snd (Prod.snd x)) ∧ Prod.snd (Prod.snd (Prod.snd x)) < (↑(List.length (Prod.fst x)) : Int)) ∧ ifB (!Event.Begins (Ty.ix Ty.event (Prod.fst x) (Int.toNat (Prod.snd (Prod.snd (Prod.snd x))))) == (Int.tmod (Prod.fst (Prod.snd (Prod.snd x))) (3 : Int) == (0 : Int))) (Q (SV.int IntKind.i64 (-1 : Int)) [(false, Blk.vec Ty.event (Prod.fst x))]) (((0 : Int) ≤ Prod.snd (Prod.snd (Prod.snd x)) ∧ Prod.snd (Prod.snd (Prod.snd x)) < (↑(List.length (Prod.fst x)) : Int)) ∧ ifB (Pair.A (Event.Pair (Ty.ix Ty.event (Prod.fst x) (Int.toNat (Prod.snd (Prod.snd (Prod.snd x)))))) != IntKind.wrap IntKind.i64 (Prod.fst (Prod.snd (Prod.snd x)) + (1 : Int))) (Q (SV.int IntKind.i64 (-1 : Int)) [(false, Blk.vec Ty.event (Prod.fst x))]) (((0 : Int) ≤ Prod.snd (Prod.snd (Prod.snd x)) ∧ Prod.snd (Prod.snd (Prod.snd x)) < (↑(List.length (Prod.fst x)) : Int)) ∧ ifB (Pair.B (Event.Pair (Ty.ix Ty.event (Prod.fst x) (Int.toNat (Prod.snd (Prod.snd (Prod.snd x)))))) != IntKind.wrap IntKind.i64 (IntKind.wrap IntKind.i64 (Prod.fst (Prod.snd (Prod.snd x)) + (1 : Int)) + (1 : Int))) (Q (SV.int IntKind.i64 (-1 : Int)) [(false, Blk.vec Ty.event (Prod.fst x))]) (Holds (Prod.fst x = xs ∧ (0 : Int) ≤ IntKind.wrap IntKind.i64 (Prod.snd (Prod.snd (Prod.snd x)) + (1 : Int)) ∧ IntKind.wrap IntKind.i64 (Prod.snd (Prod.snd (Prod.snd x)) + (1 : Int)) ≤ (↑(List.length xs) : Int) ∧ IntKind.wrap IntKind.i64 (IntKind.wrap IntKind.i64 (IntKind.wrap IntKind.i64 (Prod.fst (Prod.snd (Prod.snd x)) + (1 : Int)) + (1 : Int)) + (1 : Int)) = k + (3 : Int) * IntKind.wrap IntKind.i64 (Prod.snd (Prod.snd (Prod.snd x)) + (1 : Int)) ∧ List.take (Int.toNat (IntKind.wrap IntKind.i64 (Prod.snd (Prod.snd (Prod.snd x)) + (1 : Int)))) xs = List.take (Int.toNat (IntKind.wrap IntKind.i64 (Prod.snd (Prod.snd (Prod.snd x)) + (1 : Int)))) (gen (fun e => mkEvent (k + (3 : Int) * (↑e : Int))) (List.length xs))) ∧ Int.toNat ((↑(List.length xs) : Int) - IntKind.wrap IntKind.i64 (Prod.snd (Prod.snd (Prod.snd x)) + (1 : Int))) < Int.toNat ((↑(List.length xs) : Int) - Prod.snd (Prod.snd (Prod.snd x))))))) (Q (SV.int IntKind.i64 (Prod.fst (Prod.snd (Prod.snd x)))) [(false, Blk.vec Ty.event (Prod.fst x))])) := by kernel_rfl

theorem ok_lawsHeldEventS : FsOk Tryz.prog 32 fs_lawsHeldEventS := fsOk_of tt_ok tabFs_nil mixed Tryz.func32 (by kernel_rfl) (by kernel_rfl) (by
    intro args LL p r HH h hp
    unfold fs_lawsHeldEventS at h
    dsimp only at h
    split at h
    case h_2 => cases h
    rename_i k xs
    simp only [Option.some.injEq, Prod.mk.injEq] at h
    obtain ⟨rfl, rfl, rfl⟩ := h
    refine ⟨by simp [Form, stays], (L_lawsHeldEventS k xs), ?_⟩
    rw [vc_lawsHeldEventS]
    try dsimp only
    obtain ⟨hb, hk0, hk1⟩ := hp _ rfl
    refine ⟨⟨rfl, by omega, by omega, by omega, rfl⟩, ?_⟩
    rintro ⟨xs', u, k', i⟩ ⟨h⟩
    dsimp only at h ⊢
    obtain ⟨rfl, h0, h1, rfl, h3⟩ := h
    refine ifB_of (fun c => ?_) (fun c => ?_)
    · have hi : i < xs'.length := of_decide_eq_true c
      have hn : ((i.toNat : Nat) : Int) = i := by omega
      have e1 : (i + 1).toNat = i.toNat + 1 := by omega
      simp (disch := omega) only [wrap_small, e1]
      have bad : ∀ P : Prop, Ty.ix .event xs' i.toNat ≠ mkEvent (k + 3 * i) → (.int .i64 (-1) : SV) = .int .i64 (bif same xs' (gen (fun e => mkEvent (k + 3 * (e : Int))) xs'.length) then k + 3 * xs'.length else -1) := fun _ h => by
        rw [heldBad (T := .event) (i := i.toNat) (by omega) (by rw [hn]; exact h)]
        rfl
      have good : Ty.ix .event xs' i.toNat = mkEvent (k + 3 * i) → xs'.take (i.toNat + 1) = (gen (fun e => mkEvent (k + 3 * (e : Int))) xs'.length).take (i.toNat + 1) := fun h => by
        refine take_succ_eq (T := .event) (by omega) (by simp; omega) h3 ?_
        rw [ix_gen (T := .event) (by omega), hn]
        exact h
      generalize Ty.ix .event xs' i.toNat = x at bad good ⊢
      repeat' (first | refine ifB_of (fun _ => ?_) (fun _ => ?_) | refine pre_of ⟨h0, hi⟩ (fun _ => ?_) | fail)
      all_goals first
        | (refine ⟨bad True ?_, by trivial⟩
           rintro rfl
           simp_all [mkEvent])
        | (refine ⟨⟨by trivial, by omega, by omega, by omega, good ?_⟩, by omega⟩
           rename_i b0 q0 b1 q1 b2 q2
           exact (eqEvent_iff _ _).1 ⟨by simpa [mkEvent] using q0, by simpa [mkEvent] using q1, by simpa [mkEvent] using q2⟩)
    · have hi : ¬ i < xs'.length := of_decide_eq_false c
      have e0 : i.toNat = xs'.length := by omega
      rw [e0] at h3
      have e1 := eq_of_take (Nat.le_refl _) (by simp) h3
      rw [same_tt e1]
      refine ⟨?_, rfl⟩
      simp only [cond_true]
      congr 1
      omega)

end Go.Proofs.YtdhbkcaaijgocaaGreat.Sym

namespace Go.Proofs.YtdhbkcaaijgocaaGreat.Sym
open Go
set_option linter.unusedVariables false
set_option linter.unusedSimpArgs false
set_option maxRecDepth 100000

/-- All below a number. -/
def allTo (p : Nat → Bool) : Nat → Bool
  | 0 => true
  | k + 1 => allTo p k && p k
theorem allTo_false {p : Nat → Bool} {k : Nat} (hk : p k = false) : ∀ {n : Nat}, k < n → allTo p n = false
  | n + 1, h => by
    simp only [allTo]
    by_cases e : k = n
    · subst e; simp [hk]
    · simp [allTo_false hk (n := n) (by omega)]
theorem szLeft_le {n : Nat} (c : decide (szLeft 1048576 (n : Int) < 0) = false) (hb : n ≤ 9223372036854775807) : n ≤ 1048576 := by
  have c := of_decide_eq_false c
  have hw : W (1048576 - (n : Int)) = 1048576 - (n : Int) := wrap_small (by omega) (by omega)
  simp only [szLeft, hw] at c
  split at c <;> omega
def boxMeets (a b : Box) : Bool := decide (a.Low.X ≤ b.High.X) && decide (b.Low.X ≤ a.High.X) && decide (a.Low.Y ≤ b.High.Y) && decide (b.Low.Y ≤ a.High.Y)
noncomputable def fs_implMeets : Fs := ⟨[], fun args H => match args, H with
  | [.agg [.int .i64 aLX, .int .i64 aLY, .int .i64 aHX, .int .i64 aHY], .agg [.int .i64 bLX, .int .i64 bLY, .int .i64 bHX, .int .i64 bHY]], [] => some (none, .bool (boxMeets (Box.mk (Vec.mk aLX aLY) (Vec.mk aHX aHY)) (Box.mk (Vec.mk bLX bLY) (Vec.mk bHX bHY))), [])
  | _, _ => none⟩

theorem vc_implMeets (aLX : Int) (aLY : Int) (aHX : Int) (aHY : Int) (bLX : Int) (bLY : Int) (bHX : Int) (bHY : Int) (Q : SV → List Ent → Prop) :
    fnVC tt (look []) L0 Tryz.f120 [.agg [.int .i64 aLX, .int .i64 aLY, .int .i64 aHX, .int .i64 aHY], .agg [.int .i64 bLX, .int .i64 bLY, .int .i64 bHX, .int .i64 bHY]] [] Q =
    (ifB (decide (aLX ≤ bHX)) (ifB (decide (bLX ≤ aHX)) (ifB (decide (aLY ≤ bHY)) (Q (SV.bool (decide (bLY ≤ aHY))) []) (Q (SV.bool false) [])) (Q (SV.bool false) [])) (Q (SV.bool false) [])) := by kernel_rfl

theorem ok_implMeets : FsOk Tryz.prog 120 fs_implMeets := fsOk_of tt_ok tabFs_nil mixed Tryz.func120 (by kernel_rfl) (by kernel_rfl) (by
    intro args LL p r HH h hp
    unfold fs_implMeets at h
    dsimp only at h
    split at h
    case h_2 => cases h
    rename_i aLX aLY aHX aHY bLX bLY bHX bHY
    simp only [Option.some.injEq, Prod.mk.injEq] at h
    obtain ⟨rfl, rfl, rfl⟩ := h
    refine ⟨by simp [Form, stays], L0, ?_⟩
    rw [vc_implMeets]
    try dsimp only

    repeat' (first | refine ifB_of (fun _ => ?_) (fun _ => ?_) | refine pre_of ?_ (fun _ => ?_))
    all_goals first
      | rfl
      | (simp only [W, boxMeets, *, cond_true, cond_false, Bool.true_and, Bool.false_and, Bool.and_true, Bool.and_false, Bool.not_true, Bool.not_false, and_self, true_and]; done)
      | (simp_all [W, boxMeets]; done)
      | (simp_all [W, boxMeets] <;> omega))

noncomputable def fs_l3Meets : Fs := ⟨[], fun args H => match args, H with
  | [.agg [.int .i64 aLX, .int .i64 aLY, .int .i64 aHX, .int .i64 aHY], .agg [.int .i64 bLX, .int .i64 bLY, .int .i64 bHX, .int .i64 bHY]], [] => some (none, .bool (boxMeets (Box.mk (Vec.mk aLX aLY) (Vec.mk aHX aHY)) (Box.mk (Vec.mk bLX bLY) (Vec.mk bHX bHY))), [])
  | _, _ => none⟩

theorem vc_l3Meets (aLX : Int) (aLY : Int) (aHX : Int) (aHY : Int) (bLX : Int) (bLY : Int) (bHX : Int) (bHY : Int) (Q : SV → List Ent → Prop) :
    fnVC tt (look []) L0 Tryz.f121 [.agg [.int .i64 aLX, .int .i64 aLY, .int .i64 aHX, .int .i64 aHY], .agg [.int .i64 bLX, .int .i64 bLY, .int .i64 bHX, .int .i64 bHY]] [] Q =
    (ifB (decide (aLX ≤ bHX)) (ifB (decide (bLX ≤ aHX)) (ifB (decide (aLY ≤ bHY)) (Q (SV.bool (decide (bLY ≤ aHY))) []) (Q (SV.bool false) [])) (Q (SV.bool false) [])) (Q (SV.bool false) [])) := by kernel_rfl

theorem ok_l3Meets : FsOk Tryz.prog 121 fs_l3Meets := fsOk_of tt_ok tabFs_nil mixed Tryz.func121 (by kernel_rfl) (by kernel_rfl) (by
    intro args LL p r HH h hp
    unfold fs_l3Meets at h
    dsimp only at h
    split at h
    case h_2 => cases h
    rename_i aLX aLY aHX aHY bLX bLY bHX bHY
    simp only [Option.some.injEq, Prod.mk.injEq] at h
    obtain ⟨rfl, rfl, rfl⟩ := h
    refine ⟨by simp [Form, stays], L0, ?_⟩
    rw [vc_l3Meets]
    try dsimp only

    repeat' (first | refine ifB_of (fun _ => ?_) (fun _ => ?_) | refine pre_of ?_ (fun _ => ?_))
    all_goals first
      | rfl
      | (simp only [W, boxMeets, *, cond_true, cond_false, Bool.true_and, Bool.false_and, Bool.and_true, Bool.and_false, Bool.not_true, Bool.not_false, and_self, true_and]; done)
      | (simp_all [W, boxMeets]; done)
      | (simp_all [W, boxMeets] <;> omega))


theorem drop_ix {T : Ty} {xs : List T.El} {i : Nat} (h : i < xs.length) : xs.drop i = T.ix xs i :: xs.drop (i + 1) := by
  rw [List.drop_eq_getElem_cons h]
  congr 1
  simp [Ty.ix, List.getD, h]
theorem not_true {b : Bool} (h : (!b) = true) : b = false := by simpa using h
theorem not_false {b : Bool} (h : (!b) = false) : b = true := by simpa using h
theorem drop_end {α : Type} {xs : List α} {i : Nat} (h : xs.length ≤ i) : xs.drop i = [] := List.drop_eq_nil_of_le h
end Go.Proofs.YtdhbkcaaijgocaaGreat.Sym

namespace Go.Proofs.YtdhbkcaaijgocaaGreat.Sym
open Go
set_option linter.unusedVariables false
set_option linter.unusedSimpArgs false
set_option maxRecDepth 100000

def bodyAt (xs : List Body) (k : Nat) : Bool := bodyOk (Ty.ix .body xs k) && (k == 0 || decide ((Ty.ix .body xs (k - 1)).Id < (Ty.ix .body xs k).Id))
def bodiesOk (xs : List Body) : Bool := allTo (bodyAt xs) xs.length && decide (xs.length ≤ 12)
theorem fin_bodies {xs : List Body} : bodiesOk xs = (allTo (bodyAt xs) xs.length && decide ((xs.length : Int) ≤ 12)) := by
  unfold bodiesOk
  congr 1
  rw [decide_eq_decide]
  omega
theorem bodiesOk_len {xs : List Body} (h : bodiesOk xs = true) : xs.length ≤ 12 := by
  simp only [bodiesOk, Bool.and_eq_true, decide_eq_true_eq] at h
  exact h.2
theorem allTo_iff {p : Nat → Bool} : ∀ {n : Nat}, allTo p n = true ↔ ∀ k, k < n → p k = true
  | 0 => by simp [allTo]
  | n + 1 => by
    simp only [allTo, Bool.and_eq_true, allTo_iff (n := n)]
    constructor
    · rintro ⟨h1, h2⟩ k hk
      by_cases e : k = n
      · subst e; exact h2
      · exact h1 k (by omega)
    · exact fun h => ⟨fun k hk => h k (by omega), h n (by omega)⟩
theorem bodiesOk_iff {xs : List Body} : bodiesOk xs = true ↔ xs.length ≤ 12 ∧ (∀ k, k < xs.length → bodyOk (Ty.ix .body xs k) = true) ∧ ∀ k, k + 1 < xs.length → (Ty.ix .body xs k).Id < (Ty.ix .body xs (k + 1)).Id := by
  simp only [bodiesOk, Bool.and_eq_true, decide_eq_true_eq, allTo_iff, bodyAt, Bool.or_eq_true, beq_iff_eq]
  constructor
  · rintro ⟨h1, h2⟩
    refine ⟨h2, fun k hk => (h1 k hk).1, fun k hk => ?_⟩
    rcases (h1 (k + 1) hk).2 with h | h
    · omega
    · simpa using h
  · rintro ⟨h1, h2, h3⟩
    refine ⟨fun k hk => ⟨h2 k hk, ?_⟩, h1⟩
    cases k with
    | zero => left; rfl
    | succ k => right; simpa using h3 k hk
theorem bodiesOk_each {xs : List Body} (h : bodiesOk xs = true) {k : Nat} (hk : k < xs.length) : bodyOk (Ty.ix .body xs k) = true := (bodiesOk_iff.1 h).2.1 k hk
def LSspecBodiesOk  : LS where
  S := List Body × Unit × Int
  live := [(0, [none]), (3, [none])]
  shape := fun s => ([.vec 0, .int .i64 s.2.2], [(false, .vec .body s.1)])
  get := fun v h => match v, h with
    | [.vec 0, .int .i64 i], [(false, .vec .body xs)] => some (xs, (), i)
    | _, _ => none
  inv := fun s0 s => Holds (s.1 = s0.1 ∧ 0 ≤ s.2.2 ∧ s.2.2 ≤ s0.1.length ∧ allTo (bodyAt s0.1) s.2.2.toNat = true)
  mu := fun s => ((s.1.length : Int) - s.2.2).toNat
  ok := by
    intro v h s hg
    try dsimp only at hg
    split at hg <;> cases hg
    rfl

def L_specBodiesOk : Loops := fun n => match n with
  | 2 => some LSspecBodiesOk
  | _ => none
noncomputable def fs_specBodiesOk : Fs := ⟨[], fun args H => match args, H with
  | [.vec 0], [(false, .vec .body xs)] => some ((some (xs.length ≤ 4611686018427387904)), .bool (bodiesOk xs), [(false, .vec .body xs)])
  | _, _ => none⟩

theorem vc_specBodiesOk (xs : List Body) (Q : SV → List Ent → Prop) :
    fnVC tt (look [(110, fs_specBodyOk)]) (L_specBodiesOk) Tryz.f37 [.vec 0] [(false, .vec .body xs)] Q =
    (Holds (xs = xs ∧ (0 : Int) ≤ (0 : Int) ∧ (0 : Int) ≤ (↑(List.length xs) : Int) ∧ allTo (bodyAt xs) (Int.toNat (0 : Int)) = true) ∧ ∀ (x : List Body × Unit × Int), Holds (Prod.fst x = xs ∧ (0 : Int) ≤ Prod.snd (Prod.snd x) ∧ Prod.snd (Prod.snd x) ≤ (↑(List.length xs) : Int) ∧ allTo (bodyAt xs) (Int.toNat (Prod.snd (Prod.snd x))) = true) → ifB (decide (Prod.snd (Prod.snd x) < (↑(List.length (Prod.fst x)) : Int))) (((0 : Int) ≤ Prod.snd (Prod.snd x) ∧ Prod.snd (Prod.snd x) < (↑(List.length (Prod.fst x)) : Int)) ∧ ifB (!bodyOk (Ty.ix Ty.body (Prod.fst x) (Int.toNat (Prod.snd (Prod.snd x))))) (Q (SV.bool false) [(false, Blk.vec Ty.body (Prod.fst x))]) (ifB (decide (Prod.snd (Prod.snd x) > (0 : Int))) (((0 : Int) ≤ IntKind.wrap IntKind.i64 (Prod.snd (Prod.snd x) - (1 : Int)) ∧ IntKind.wrap IntKind.i64 (Prod.snd (Prod.snd x) - (1 : Int)) < (↑(List.length (Prod.fst x)) : Int)) ∧ ((0 : Int) ≤ Prod.snd (Prod.snd x) ∧ Prod.snd (Prod.snd x) < (↑(List.length (Prod.fst x)) : Int)) ∧ ifB (decide (Body.Id (Ty.ix Ty.body (Prod.fst x) (Int.toNat (IntKind.wrap IntKind.i64 (Prod.snd (Prod.snd x) - (1 : Int))))) ≥ Body.Id (Ty.ix Ty.body (Prod.fst x) (Int.toNat (Prod.snd (Prod.snd x)))))) (Q (SV.bool false) [(false, Blk.vec Ty.body (Prod.fst x))]) (Holds (Prod.fst x = xs ∧ (0 : Int) ≤ IntKind.wrap IntKind.i64 (Prod.snd (Prod.snd x) + (1 : Int)) ∧ IntKind.wrap IntKind.i64 (Prod.snd (Prod.snd x) + (1 : Int)) ≤ (↑(List.length xs) : Int) ∧ allTo (bodyAt xs) (Int.toNat (IntKind.wrap IntKind.i64 (Prod.snd (Prod.snd x) + (1 : Int)))) = true) ∧ Int.toNat ((↑(List.length (Prod.fst x)) : Int) - IntKind.wrap IntKind.i64 (Prod.snd (Prod.snd x) + (1 : Int))) < Int.toNat ((↑(List.length (Prod.fst x)) : Int) - Prod.snd (Prod.snd x)))) (Holds (Prod.fst x = xs ∧ (0 : Int) ≤ IntKind.wrap IntKind.i64 (Prod.snd (Prod.snd x) + (1 : Int)) ∧ IntKind.wrap IntKind.i64 (Prod.snd (Prod.snd x) + (1 : Int)) ≤ (↑(List.length xs) : Int) ∧ allTo (bodyAt xs) (Int.toNat (IntKind.wrap IntKind.i64 (Prod.snd (Prod.snd x) + (1 : Int)))) = true) ∧ Int.toNat ((↑(List.length (Prod.fst x)) : Int) - IntKind.wrap IntKind.i64 (Prod.snd (Prod.snd x) + (1 : Int))) < Int.toNat ((↑(List.length (Prod.fst x)) : Int) - Prod.snd (Prod.snd x))))) (Q (SV.bool (decide ((↑(List.length (Prod.fst x)) : Int) ≤ (12 : Int)))) [(false, Blk.vec Ty.body (Prod.fst x))])) := by kernel_rfl

theorem ok_specBodiesOk : FsOk Tryz.prog 37 fs_specBodiesOk := fsOk_of tt_ok (tabFs_cons ok_specBodyOk tabFs_nil) mixed Tryz.func37 (by kernel_rfl) (by kernel_rfl) (by
    intro args LL p r HH h hp
    unfold fs_specBodiesOk at h
    dsimp only at h
    split at h
    case h_2 => cases h
    rename_i xs
    simp only [Option.some.injEq, Prod.mk.injEq] at h
    obtain ⟨rfl, rfl, rfl⟩ := h
    refine ⟨by simp [Form, stays], (L_specBodiesOk), ?_⟩
    rw [vc_specBodiesOk]
    try dsimp only
    have hb := hp _ rfl
    refine ⟨⟨(by trivial), by omega, by omega, (by trivial)⟩, ?_⟩
    rintro ⟨xs', u, i⟩ ⟨h⟩
    dsimp only at h ⊢
    obtain ⟨rfl, h0, h1, h3⟩ := h
    refine ifB_of (fun c => ?_) (fun c => ?_)
    · have hi : i < xs'.length := of_decide_eq_true c
      have e1 : (i + 1).toNat = i.toNat + 1 := by omega
      have fl : bodyAt xs' i.toNat = false → bodiesOk xs' = false := fun h => by simp [bodiesOk, allTo_false h (show i.toNat < xs'.length by omega)]
      have nx : bodyAt xs' i.toNat = true → allTo (bodyAt xs') (i.toNat + 1) = true := fun h => by simp [allTo, h3, h]
      have hw1 : IntKind.i64.wrap (i + 1) = i + 1 := wrap_small (by omega) (by omega)
      have hw2 : IntKind.i64.wrap (i - 1) = i - 1 := wrap_small (by omega) (by omega)
      have e2 : (i - 1).toNat = i.toNat - 1 := by omega
      rw [hw1, hw2, e1, e2]
      refine ⟨⟨h0, hi⟩, ifB_of (fun c1 => ?_) (fun c1 => ?_)⟩
      · rw [fl (by simp [bodyAt, not_true c1])]
        exact ⟨rfl, rfl⟩
      have c1 := not_false c1
      refine ifB_of (fun c3 => ?_) (fun c3 => ?_)
      · have c3 : i > 0 := of_decide_eq_true c3
        have hne : ¬ i.toNat = 0 := by omega
        refine ⟨⟨by omega, by omega⟩, ⟨h0, hi⟩, ifB_of (fun c4 => ?_) (fun c4 => ?_)⟩
        · have c4 := of_decide_eq_true c4
          rw [fl (by simp only [bodyAt, c1]; simp [hne]; omega)]
          exact ⟨rfl, rfl⟩
        · have c4 := of_decide_eq_false c4
          refine ⟨⟨(by trivial), by omega, by omega, nx ?_⟩, by omega⟩
          simp only [bodyAt, c1]
          simp [hne]
          omega
      · have c3 : ¬ i > 0 := of_decide_eq_false c3
        have hz : i.toNat = 0 := by omega
        refine ⟨⟨(by trivial), by omega, by omega, nx ?_⟩, by omega⟩
        simp only [bodyAt, c1]
        simp [hz]
    · have hi : ¬ i < xs'.length := of_decide_eq_false c
      have e1 : i.toNat = xs'.length := by omega
      rw [e1] at h3
      rw [fin_bodies, h3]
      exact ⟨rfl, rfl⟩)

def LSimplBodiesOk  : LS where
  S := List Body × Unit × Unit × Int × Int
  live := [(0, [none]), (5, [none]), (6, [none]), (7, [none])]
  shape := fun s => ([.vec 0, .vec 0, .int .i64 s.2.2.2.1, .int .i64 s.2.2.2.2], [(false, .vec .body s.1)])
  get := fun v h => match v, h with
    | [.vec 0, .vec 0, .int .i64 n, .int .i64 i], [(false, .vec .body xs)] => some (xs, (), (), n, i)
    | _, _ => none
  inv := fun s0 s => Holds (s.1 = s0.1 ∧ s.2.2.2.1 = s0.1.length ∧ 0 ≤ s.2.2.2.2 ∧ s.2.2.2.2 ≤ s0.1.length ∧ allTo (bodyAt s0.1) s.2.2.2.2.toNat = true)
  mu := fun s => ((s.1.length : Int) - s.2.2.2.2).toNat
  ok := by
    intro v h s hg
    try dsimp only at hg
    split at hg <;> cases hg
    rfl

def L_implBodiesOk : Loops := fun n => match n with
  | 2 => some LSimplBodiesOk
  | _ => none
noncomputable def fs_implBodiesOk : Fs := ⟨[], fun args H => match args, H with
  | [.vec 0], [(false, .vec .body xs)] => some ((some (xs.length ≤ 4611686018427387904)), .bool (bodiesOk xs), [(false, .vec .body xs)])
  | _, _ => none⟩

theorem vc_implBodiesOk (xs : List Body) (Q : SV → List Ent → Prop) :
    fnVC tt (look [(111, fs_implBodyOk)]) (L_implBodiesOk) Tryz.f38 [.vec 0] [(false, .vec .body xs)] Q =
    (let w_ := IntKind.wrap IntKind.i64; let n_ := Int.toNat; Holds (xs = xs ∧ (↑(List.length xs) : Int) = (↑(List.length xs) : Int) ∧ (0 : Int) ≤ (0 : Int) ∧ (0 : Int) ≤ (↑(List.length xs) : Int) ∧ allTo (bodyAt xs) (n_ (0 : Int)) = true) ∧ ∀ (y1 : List Body × Unit × Unit × Int × Int), let y1f0_ := Prod.fst y1; let y1s1_ := Prod.snd y1; let y1s3_ := Prod.snd (Prod.snd (Prod.snd y1)); let y1f3_ := Prod.fst (Prod.snd (Prod.snd (Prod.snd y1))); let y1s4_ := Prod.snd (Prod.snd (Prod.snd (Prod.snd y1))); let A4_ := (↑(List.length xs) : Int); let A3_ := (↑(List.length y1f0_) : Int); let A2_ := (Prod.snd y1s3_ + (1 : Int)); Holds (Prod.fst y1 = xs ∧ y1f3_ = A4_ ∧ (0 : Int) ≤ y1s4_ ∧ y1s4_ ≤ A4_ ∧ allTo (bodyAt xs) (n_ y1s4_) = true) → ifB (decide (Prod.snd y1s3_ < y1f3_)) (((0 : Int) ≤ y1s4_ ∧ y1s4_ < A3_) ∧ ifB (!bodyOk (Ty.ix Ty.body y1f0_ (n_ y1s4_))) (Q (SV.bool false) [(false, Blk.vec Ty.body y1f0_)]) (ifB (decide (Prod.snd y1s3_ > (0 : Int))) (((0 : Int) ≤ w_ (Prod.snd y1s3_ - (1 : Int)) ∧ w_ (Prod.snd y1s3_ - (1 : Int)) < A3_) ∧ ifB (decide (Body.Id (Ty.ix Ty.body y1f0_ (n_ y1s4_)) ≤ Body.Id (Ty.ix Ty.body y1f0_ (n_ (w_ (Prod.snd y1s3_ - (1 : Int))))))) (Q (SV.bool false) [(false, Blk.vec Ty.body y1f0_)]) (Holds (Prod.fst y1 = xs ∧ y1f3_ = A4_ ∧ (0 : Int) ≤ w_ A2_ ∧ w_ A2_ ≤ A4_ ∧ allTo (bodyAt xs) (n_ (w_ A2_)) = true) ∧ n_ (A3_ - w_ A2_) < n_ (A3_ - y1s4_))) (Holds (Prod.fst y1 = xs ∧ y1f3_ = A4_ ∧ (0 : Int) ≤ w_ A2_ ∧ w_ A2_ ≤ A4_ ∧ allTo (bodyAt xs) (n_ (w_ A2_)) = true) ∧ n_ (A3_ - w_ A2_) < n_ (A3_ - y1s4_)))) (Q (SV.bool (decide (A3_ ≤ (12 : Int)))) [(false, Blk.vec Ty.body y1f0_)])) := by kernel_rfl

theorem ok_implBodiesOk : FsOk Tryz.prog 38 fs_implBodiesOk := fsOk_of tt_ok (tabFs_cons ok_implBodyOk tabFs_nil) mixed Tryz.func38 (by kernel_rfl) (by kernel_rfl) (by
    intro args LL p r HH h hp
    unfold fs_implBodiesOk at h
    dsimp only at h
    split at h
    case h_2 => cases h
    rename_i xs
    simp only [Option.some.injEq, Prod.mk.injEq] at h
    obtain ⟨rfl, rfl, rfl⟩ := h
    refine ⟨by simp [Form, stays], (L_implBodiesOk), ?_⟩
    rw [vc_implBodiesOk]
    try dsimp only
    have hb := hp _ rfl
    refine ⟨⟨(by trivial), (by trivial), by omega, by omega, (by trivial)⟩, ?_⟩
    rintro ⟨xs', u, v, n, i⟩ ⟨h⟩
    dsimp only at h ⊢
    obtain ⟨rfl, rfl, h0, h1, h3⟩ := h
    refine ifB_of (fun c => ?_) (fun c => ?_)
    · have hi : i < xs'.length := of_decide_eq_true c
      have e1 : (i + 1).toNat = i.toNat + 1 := by omega
      have fl : bodyAt xs' i.toNat = false → bodiesOk xs' = false := fun h => by simp [bodiesOk, allTo_false h (show i.toNat < xs'.length by omega)]
      have nx : bodyAt xs' i.toNat = true → allTo (bodyAt xs') (i.toNat + 1) = true := fun h => by simp [allTo, h3, h]
      have hw1 : IntKind.i64.wrap (i + 1) = i + 1 := wrap_small (by omega) (by omega)
      have hw2 : IntKind.i64.wrap (i - 1) = i - 1 := wrap_small (by omega) (by omega)
      have e2 : (i - 1).toNat = i.toNat - 1 := by omega
      rw [hw1, hw2, e1, e2]
      refine ⟨⟨h0, hi⟩, ifB_of (fun c1 => ?_) (fun c1 => ?_)⟩
      · rw [fl (by simp [bodyAt, not_true c1])]
        exact ⟨rfl, rfl⟩
      have c1 := not_false c1
      refine ifB_of (fun c3 => ?_) (fun c3 => ?_)
      · have c3 : i > 0 := of_decide_eq_true c3
        have hne : ¬ i.toNat = 0 := by omega
        refine ⟨⟨by omega, by omega⟩, ifB_of (fun c4 => ?_) (fun c4 => ?_)⟩
        · have c4 := of_decide_eq_true c4
          rw [fl (by simp only [bodyAt, c1]; simp [hne]; omega)]
          exact ⟨rfl, rfl⟩
        · have c4 := of_decide_eq_false c4
          refine ⟨⟨(by trivial), (by trivial), by omega, by omega, nx ?_⟩, by omega⟩
          simp only [bodyAt, c1]
          simp [hne]
          omega
      · have c3 : ¬ i > 0 := of_decide_eq_false c3
        have hz : i.toNat = 0 := by omega
        refine ⟨⟨(by trivial), (by trivial), by omega, by omega, nx ?_⟩, by omega⟩
        simp only [bodyAt, c1]
        simp [hz]
    · have hi : ¬ i < xs'.length := of_decide_eq_false c
      have e1 : i.toNat = xs'.length := by omega
      rw [e1] at h3
      rw [fin_bodies, h3]
      exact ⟨rfl, rfl⟩)


def moves (b : Body) : Bool := !(b.Mass == 0) && !(b.Quiet == 8)
noncomputable def fs_implMoves : Fs := ⟨[], fun args H => match args, H with
  | [.agg [.int .i64 bI, .int .i64 bK, .int .i64 bW, .int .i64 bH, .int .i64 bX, .int .i64 bY, .int .i64 bU, .int .i64 bV, .int .i64 bM, .int .i64 bB, .int .i64 bR, .int .i64 bQ]], [] => some (none, .bool (moves (Body.mk bI (Shape.mk bK bW bH) (Vec.mk bX bY) (Vec.mk bU bV) bM bB bR bQ)), [])
  | _, _ => none⟩

theorem vc_implMoves (bI : Int) (bK : Int) (bW : Int) (bH : Int) (bX : Int) (bY : Int) (bU : Int) (bV : Int) (bM : Int) (bB : Int) (bR : Int) (bQ : Int) (Q : SV → List Ent → Prop) :
    fnVC tt (look [(140, fs_bodyFixed), (81, fs_bodySleeps)]) L0 Tryz.f82 [.agg [.int .i64 bI, .int .i64 bK, .int .i64 bW, .int .i64 bH, .int .i64 bX, .int .i64 bY, .int .i64 bU, .int .i64 bV, .int .i64 bM, .int .i64 bB, .int .i64 bR, .int .i64 bQ]] [] Q =
    (ifB (!bM == (0 : Int)) (Q (SV.bool !bQ == (8 : Int)) []) (Q (SV.bool false) [])) := by kernel_rfl

theorem ok_implMoves : FsOk Tryz.prog 82 fs_implMoves := fsOk_of tt_ok (tabFs_cons ok_bodyFixed (tabFs_cons ok_bodySleeps tabFs_nil)) mixed Tryz.func82 (by kernel_rfl) (by kernel_rfl) (by
    intro args LL p r HH h hp
    unfold fs_implMoves at h
    dsimp only at h
    split at h
    case h_2 => cases h
    rename_i bI bK bW bH bX bY bU bV bM bB bR bQ
    simp only [Option.some.injEq, Prod.mk.injEq] at h
    obtain ⟨rfl, rfl, rfl⟩ := h
    refine ⟨by simp [Form, stays], L0, ?_⟩
    rw [vc_implMoves]
    try dsimp only

    repeat' (first | refine ifB_of (fun _ => ?_) (fun _ => ?_) | refine pre_of ?_ (fun _ => ?_))
    all_goals first
      | rfl
      | (simp only [W, moves, *, cond_true, cond_false, Bool.true_and, Bool.false_and, Bool.and_true, Bool.and_false, Bool.not_true, Bool.not_false, and_self, true_and]; done)
      | (simp_all [W, moves]; done)
      | (simp_all [W, moves] <;> omega))

noncomputable def fs_l6Sleeps : Fs := ⟨[], fun args H => match args, H with
  | [.agg [.int .i64 bI, .int .i64 bK, .int .i64 bW, .int .i64 bH, .int .i64 bX, .int .i64 bY, .int .i64 bU, .int .i64 bV, .int .i64 bM, .int .i64 bB, .int .i64 bR, .int .i64 bQ]], [] => some (none, .bool (decide ((Body.mk bI (Shape.mk bK bW bH) (Vec.mk bX bY) (Vec.mk bU bV) bM bB bR bQ).Quiet ≥ 8)), [])
  | _, _ => none⟩

theorem vc_l6Sleeps (bI : Int) (bK : Int) (bW : Int) (bH : Int) (bX : Int) (bY : Int) (bU : Int) (bV : Int) (bM : Int) (bB : Int) (bR : Int) (bQ : Int) (Q : SV → List Ent → Prop) :
    fnVC tt (look []) L0 Tryz.f215 [.agg [.int .i64 bI, .int .i64 bK, .int .i64 bW, .int .i64 bH, .int .i64 bX, .int .i64 bY, .int .i64 bU, .int .i64 bV, .int .i64 bM, .int .i64 bB, .int .i64 bR, .int .i64 bQ]] [] Q =
    (Q (SV.bool (decide (bQ ≥ (8 : Int)))) []) := by kernel_rfl

theorem ok_l6Sleeps : FsOk Tryz.prog 215 fs_l6Sleeps := fsOk_of tt_ok tabFs_nil mixed Tryz.func215 (by kernel_rfl) (by kernel_rfl) (by
    intro args LL p r HH h hp
    unfold fs_l6Sleeps at h
    dsimp only at h
    split at h
    case h_2 => cases h
    rename_i bI bK bW bH bX bY bU bV bM bB bR bQ
    simp only [Option.some.injEq, Prod.mk.injEq] at h
    obtain ⟨rfl, rfl, rfl⟩ := h
    refine ⟨by simp [Form, stays], L0, ?_⟩
    rw [vc_l6Sleeps]
    try dsimp only

    repeat' (first | refine ifB_of (fun _ => ?_) (fun _ => ?_) | refine pre_of ?_ (fun _ => ?_))
    all_goals first
      | rfl
      | (simp only [W, moves, *, cond_true, cond_false, Bool.true_and, Bool.false_and, Bool.and_true, Bool.and_false, Bool.not_true, Bool.not_false, and_self, true_and]; done)
      | (simp_all [W, moves]; done)
      | (simp_all [W, moves] <;> omega))

/-- The first place at which something holds; -1 if there is none. -/
def firstI {α : Type} (p : α → Bool) (xs : List α) : Int := bif xs.any p then (xs.findIdx p : Int) else -1
theorem firstI_at {T : Ty} {p : T.El → Bool} {xs : List T.El} {i : Nat} (hi : i < xs.length) (h : p (T.ix xs i) = true) (hb : ∀ k, k < i → p (T.ix xs k) = false) : firstI p xs = i := by
  have hx : ∀ k (hk : k < xs.length), xs[k] = T.ix xs k := fun k hk => by simp [Ty.ix, List.getD, hk]
  have h1 : xs.any p = true := List.any_eq_true.2 ⟨xs[i], List.getElem_mem hi, by rw [hx]; exact h⟩
  have h2 : xs.findIdx p = i := (List.findIdx_eq hi).2 ⟨by rw [hx]; exact h, fun k hk => by rw [hx]; exact hb k hk⟩
  simp [firstI, h1, h2]
theorem firstI_no {T : Ty} {p : T.El → Bool} {xs : List T.El} (hb : ∀ k, k < xs.length → p (T.ix xs k) = false) : firstI p xs = -1 := by
  have h1 : xs.any p = false := by
    rw [List.any_eq_false]
    intro x hx
    obtain ⟨k, hk, rfl⟩ := List.getElem_of_mem hx
    have := hb k hk
    rw [show T.ix xs k = xs[k] by simp [Ty.ix, List.getD, hk]] at this
    simp [this]
  simp [firstI, h1]
theorem moves_iff {b : Body} (h : bodyOk b = true) : moves b = (decide (b.Mass > 0) && !decide (b.Quiet ≥ 8)) := by
  simp only [bodyOk, Bool.and_eq_true, isIn, decide_eq_true_eq] at h
  unfold moves
  by_cases h1 : b.Mass = 0
  · simp [h1]
  · by_cases h2 : b.Quiet = 8
    · simp [h2]
    · have : b.Mass > 0 := by omega
      have : ¬ b.Quiet ≥ 8 := by omega
      simp [h1, h2, *]
end Go.Proofs.YtdhbkcaaijgocaaGreat.Sym

namespace Go.Proofs.YtdhbkcaaijgocaaGreat.Sym
open Go
set_option linter.unusedVariables false
set_option linter.unusedSimpArgs false
set_option maxRecDepth 100000

/-- Of masses, bounces and rubs that are ok. -/
structure POk (b : Body) : Prop where
  m0 : 0 ≤ b.Mass
  m1 : b.Mass ≤ 1000
  b0 : 0 ≤ b.Bounce
  b1 : b.Bounce ≤ 256
  r0 : 0 ≤ b.Rub
  r1 : b.Rub ≤ 256
theorem pok_of {b : Body} (h : bodyOk b = true) : POk b := by
  simp only [bodyOk, Bool.and_eq_true, isIn, decide_eq_true_eq] at h
  obtain ⟨⟨⟨⟨⟨⟨⟨⟨h1, h2⟩, h3⟩, h4⟩, h5⟩, h6⟩, h7⟩, h8⟩, h9⟩ := h
  exact ⟨h5.1, h5.2, h6.1, h6.2, h7.1, h7.2⟩

def together (a b : Body) (n : Int) : Int :=
  bif a.Mass == 0 then W (n * b.Mass) else bif b.Mass == 0 then W (n * a.Mass) else W ((W (W (n * a.Mass) * b.Mass)).tdiv (W (a.Mass + b.Mass)))
def pushP (a b : Body) (c : Int) (bounce : Bool) : Int := together a b (bif bounce then W (c + W ((W (c * max a.Bounce b.Bounce)).tdiv 256)) else c)
def pushSide (h : Hit) : Vec := ⟨W (0 - h.Way.Y), h.Way.X⟩
def pushS (a b : Body) (h : Hit) (p : Int) : Int := withinI (together a b (closing a b (pushSide h))) (W ((W (p * min a.Rub b.Rub)).tdiv 256))
def pushE (p s x y : Int) : Int := W ((W (W (p * x) + W (s * y))).tdiv 256)
def pushW (a b : Body) (h : Hit) (p : Int) : Vec := ⟨withinI (pushE p (pushS a b h p) h.Way.X (pushSide h).X) 20000000, withinI (pushE p (pushS a b h p) h.Way.Y (pushSide h).Y) 20000000⟩
def pushV (a b : Body) (h : Hit) (bounce : Bool) : Vec :=
  bif decide (closing a b h.Way ≤ 0) || (a.Mass == 0 && b.Mass == 0) then ⟨0, 0⟩ else pushW a b h (pushP a b (closing a b h.Way) bounce)
theorem W_small {n : Int} (h1 : -9223372036854775808 ≤ n) (h2 : n ≤ 9223372036854775807) : W n = n := wrap_small h1 h2
theorem max_if (x y : Int) : (if y > x then y else x) = max x y := by omega
theorem min_if (x y : Int) : (if y < x then y else x) = min x y := by omega
theorem withinS_eq {n m : Int} (h0 : 0 ≤ m) (h1 : m ≤ 4000000000000000000) : withinS n m = withinI n m := by
  unfold withinS withinI
  have : W (0 - m) = 0 - m := wrap_small (by omega) (by omega)
  rw [this]
  omega
theorem clampTo_le {m n : Int} (h : 0 ≤ m) : -m ≤ clampTo m n ∧ clampTo m n ≤ m := by
  unfold clampTo
  omega
theorem closing_le (a b : Body) (w : Vec) : -1000000000 ≤ closing a b w ∧ closing a b w ≤ 1000000000 := clampTo_le (by omega)
theorem mul_le_mul0 {x X y Y : Int} (h0 : 0 ≤ x) (h1 : x ≤ X) (k0 : 0 ≤ y) (k1 : y ≤ Y) : 0 ≤ x * y ∧ x * y ≤ X * Y :=
  ⟨Int.mul_nonneg h0 k0, Int.mul_le_mul h1 k1 k0 (by omega)⟩
theorem together_le {a b : Body} (pa : POk a) (pb : POk b) (hm : ¬ (a.Mass = 0 ∧ b.Mass = 0)) {n : Int} (h0 : 0 ≤ n) (h1 : n ≤ 2000000000) : 0 ≤ together a b n ∧ together a b n ≤ 2000000000000 := by
  have ha := mul_le_mul0 h0 h1 pa.m0 pa.m1
  have hb := mul_le_mul0 h0 h1 pb.m0 pb.m1
  unfold together
  cases ca : a.Mass == 0 with
  | true =>
    simp only [cond_true]
    rw [show W (n * b.Mass) = n * b.Mass from wrap_small (by omega) (by omega)]
    omega
  | false =>
    simp only [cond_false]
    cases cb : b.Mass == 0 with
    | true =>
      simp only [cond_true]
      rw [show W (n * a.Mass) = n * a.Mass from wrap_small (by omega) (by omega)]
      omega
    | false =>
      simp only [cond_false]
      have ca : a.Mass ≠ 0 := by simpa using ca
      have cb : b.Mass ≠ 0 := by simpa using cb
      have a0 := pa.m0
      have a1 := pa.m1
      have b0 := pb.m0
      have b1 := pb.m1
      have hab := mul_le_mul0 ha.1 ha.2 b0 b1
      rw [show W (n * a.Mass) = n * a.Mass from wrap_small (by omega) (by omega), show W (n * a.Mass * b.Mass) = n * a.Mass * b.Mass from wrap_small (by omega) (by omega),
        show W (a.Mass + b.Mass) = a.Mass + b.Mass from wrap_small (by omega) (by omega)]
      have hq : (n * a.Mass * b.Mass).tdiv (a.Mass + b.Mass) = n * a.Mass * b.Mass / (a.Mass + b.Mass) := Int.tdiv_eq_ediv_of_nonneg hab.1
      have q0 : 0 ≤ n * a.Mass * b.Mass / (a.Mass + b.Mass) := Int.ediv_nonneg hab.1 (by omega)
      have q1 : n * a.Mass * b.Mass / (a.Mass + b.Mass) ≤ n * a.Mass := by
        refine Int.ediv_le_of_le_mul (by omega) ?_
        exact Int.mul_le_mul_of_nonneg_left (by omega) ha.1
      rw [hq, W_small (by omega) (by omega)]
      omega
theorem pushP_le {a b : Body} (pa : POk a) (pb : POk b) (hm : ¬ (a.Mass = 0 ∧ b.Mass = 0)) {c : Int} (h0 : 0 ≤ c) (h1 : c ≤ 1000000000) (z : Bool) : 0 ≤ pushP a b c z ∧ pushP a b c z ≤ 2000000000000 := by
  unfold pushP
  cases z with
  | false => exact together_le pa pb hm h0 (by simp only [cond_false]; omega)
  | true =>
    have b0 := pa.b0
    have b1 := pa.b1
    have b2 := pb.b0
    have b3 := pb.b1
    have hx := mul_le_mul0 h0 h1 (show 0 ≤ max a.Bounce b.Bounce by omega) (show max a.Bounce b.Bounce ≤ 256 by omega)
    have hc : c * max a.Bounce b.Bounce ≤ c * 256 := Int.mul_le_mul_of_nonneg_left (by omega) h0
    have hd := Int.tdiv_eq_ediv_of_nonneg (b := 256) hx.1
    simp only [cond_true]
    refine together_le pa pb hm ?_ ?_ <;>
    · rw [show W (c * max a.Bounce b.Bounce) = c * max a.Bounce b.Bounce from wrap_small (by omega) (by omega), hd,
        show W (c * max a.Bounce b.Bounce / 256) = c * max a.Bounce b.Bounce / 256 from wrap_small (by omega) (by omega), W_small (by omega) (by omega)]
      omega
theorem most_le {a b : Body} (pa : POk a) (pb : POk b) {p : Int} (h0 : 0 ≤ p) (h1 : p ≤ 2000000000000) : 0 ≤ W ((W (p * min a.Rub b.Rub)).tdiv 256) ∧ W ((W (p * min a.Rub b.Rub)).tdiv 256) ≤ p := by
  have b0 := pa.r0
  have b1 := pa.r1
  have b2 := pb.r0
  have b3 := pb.r1
  have hx := mul_le_mul0 h0 h1 (show 0 ≤ min a.Rub b.Rub by omega) (show min a.Rub b.Rub ≤ 256 by omega)
  have hc : p * min a.Rub b.Rub ≤ p * 256 := Int.mul_le_mul_of_nonneg_left (by omega) h0
  have hd := Int.tdiv_eq_ediv_of_nonneg (b := 256) hx.1
  rw [show W (p * min a.Rub b.Rub) = p * min a.Rub b.Rub from wrap_small (by omega) (by omega), hd, W_small (by omega) (by omega)]
  omega

noncomputable def fs_implTogether : Fs := ⟨[], fun args H => match args, H with
  | [.agg [.int .i64 aI, .int .i64 aK, .int .i64 aW, .int .i64 aH, .int .i64 aX, .int .i64 aY, .int .i64 aU, .int .i64 aV, .int .i64 aM, .int .i64 aB, .int .i64 aR, .int .i64 aQ], .agg [.int .i64 bI, .int .i64 bK, .int .i64 bW, .int .i64 bH, .int .i64 bX, .int .i64 bY, .int .i64 bU, .int .i64 bV, .int .i64 bM, .int .i64 bB, .int .i64 bR, .int .i64 bQ], .int .i64 n], [] => some ((some (POk (Body.mk aI (Shape.mk aK aW aH) (Vec.mk aX aY) (Vec.mk aU aV) aM aB aR aQ) ∧ POk (Body.mk bI (Shape.mk bK bW bH) (Vec.mk bX bY) (Vec.mk bU bV) bM bB bR bQ))), .int .i64 (together (Body.mk aI (Shape.mk aK aW aH) (Vec.mk aX aY) (Vec.mk aU aV) aM aB aR aQ) (Body.mk bI (Shape.mk bK bW bH) (Vec.mk bX bY) (Vec.mk bU bV) bM bB bR bQ) n), [])
  | _, _ => none⟩

theorem vc_implTogether (aI : Int) (aK : Int) (aW : Int) (aH : Int) (aX : Int) (aY : Int) (aU : Int) (aV : Int) (aM : Int) (aB : Int) (aR : Int) (aQ : Int) (bI : Int) (bK : Int) (bW : Int) (bH : Int) (bX : Int) (bY : Int) (bU : Int) (bV : Int) (bM : Int) (bB : Int) (bR : Int) (bQ : Int) (n : Int) (Q : SV → List Ent → Prop) :
    fnVC tt (look [(140, fs_bodyFixed)]) L0 Tryz.f219 [.agg [.int .i64 aI, .int .i64 aK, .int .i64 aW, .int .i64 aH, .int .i64 aX, .int .i64 aY, .int .i64 aU, .int .i64 aV, .int .i64 aM, .int .i64 aB, .int .i64 aR, .int .i64 aQ], .agg [.int .i64 bI, .int .i64 bK, .int .i64 bW, .int .i64 bH, .int .i64 bX, .int .i64 bY, .int .i64 bU, .int .i64 bV, .int .i64 bM, .int .i64 bB, .int .i64 bR, .int .i64 bQ], .int .i64 n] [] Q =
    (ifB (aM == (0 : Int)) (Q (SV.int IntKind.i64 (IntKind.wrap IntKind.i64 (n * bM))) []) (ifB (bM == (0 : Int)) (Q (SV.int IntKind.i64 (IntKind.wrap IntKind.i64 (n * aM))) []) (IntKind.wrap IntKind.i64 (aM + bM) ≠ (0 : Int) ∧ Q (SV.int IntKind.i64 (IntKind.wrap IntKind.i64 (Int.tdiv (IntKind.wrap IntKind.i64 (IntKind.wrap IntKind.i64 (n * aM) * bM)) (IntKind.wrap IntKind.i64 (aM + bM))))) []))) := by kernel_rfl

theorem ok_implTogether : FsOk Tryz.prog 219 fs_implTogether := fsOk_of tt_ok (tabFs_cons ok_bodyFixed tabFs_nil) mixed Tryz.func219 (by kernel_rfl) (by kernel_rfl) (by
    intro args LL p r HH h hp
    unfold fs_implTogether at h
    dsimp only at h
    split at h
    case h_2 => cases h
    rename_i aI aK aW aH aX aY aU aV aM aB aR aQ bI bK bW bH bX bY bU bV bM bB bR bQ n
    simp only [Option.some.injEq, Prod.mk.injEq] at h
    obtain ⟨rfl, rfl, rfl⟩ := h
    refine ⟨by simp [Form, stays], L0, ?_⟩
    rw [vc_implTogether]
    try dsimp only
    obtain ⟨pa, pb⟩ := hp _ rfl
    refine ifB_of (fun c => ?_) (fun c => ifB_of (fun c2 => ?_) (fun c2 => ⟨?_, ?_⟩))
    · simp [together, c]
    · simp [together, c, c2]
    · have h1 := pa.m0
      have h2 := pa.m1
      have h3 := pb.m0
      have h4 := pb.m1
      simp only [beq_eq_false_iff_ne] at c c2 h1 h2 h3 h4
      rw [wrap_small (by omega) (by omega)]
      omega
    · simp [together, c, c2])

noncomputable def fs_l8Mass : Fs := ⟨[], fun args H => match args, H with
  | [.agg [.int .i64 aI, .int .i64 aK, .int .i64 aW, .int .i64 aH, .int .i64 aX, .int .i64 aY, .int .i64 aU, .int .i64 aV, .int .i64 aM, .int .i64 aB, .int .i64 aR, .int .i64 aQ], .agg [.int .i64 bI, .int .i64 bK, .int .i64 bW, .int .i64 bH, .int .i64 bX, .int .i64 bY, .int .i64 bU, .int .i64 bV, .int .i64 bM, .int .i64 bB, .int .i64 bR, .int .i64 bQ], .int .i64 n], [] => some ((some (POk (Body.mk aI (Shape.mk aK aW aH) (Vec.mk aX aY) (Vec.mk aU aV) aM aB aR aQ) ∧ POk (Body.mk bI (Shape.mk bK bW bH) (Vec.mk bX bY) (Vec.mk bU bV) bM bB bR bQ))), .int .i64 (together (Body.mk aI (Shape.mk aK aW aH) (Vec.mk aX aY) (Vec.mk aU aV) aM aB aR aQ) (Body.mk bI (Shape.mk bK bW bH) (Vec.mk bX bY) (Vec.mk bU bV) bM bB bR bQ) n), [])
  | _, _ => none⟩

theorem vc_l8Mass (aI : Int) (aK : Int) (aW : Int) (aH : Int) (aX : Int) (aY : Int) (aU : Int) (aV : Int) (aM : Int) (aB : Int) (aR : Int) (aQ : Int) (bI : Int) (bK : Int) (bW : Int) (bH : Int) (bX : Int) (bY : Int) (bU : Int) (bV : Int) (bM : Int) (bB : Int) (bR : Int) (bQ : Int) (n : Int) (Q : SV → List Ent → Prop) :
    fnVC tt (look []) L0 Tryz.f248 [.agg [.int .i64 aI, .int .i64 aK, .int .i64 aW, .int .i64 aH, .int .i64 aX, .int .i64 aY, .int .i64 aU, .int .i64 aV, .int .i64 aM, .int .i64 aB, .int .i64 aR, .int .i64 aQ], .agg [.int .i64 bI, .int .i64 bK, .int .i64 bW, .int .i64 bH, .int .i64 bX, .int .i64 bY, .int .i64 bU, .int .i64 bV, .int .i64 bM, .int .i64 bB, .int .i64 bR, .int .i64 bQ], .int .i64 n] [] Q =
    (ifB (aM == (0 : Int)) (Q (SV.int IntKind.i64 (IntKind.wrap IntKind.i64 (n * bM))) []) (ifB (bM == (0 : Int)) (Q (SV.int IntKind.i64 (IntKind.wrap IntKind.i64 (n * aM))) []) (IntKind.wrap IntKind.i64 (aM + bM) ≠ (0 : Int) ∧ Q (SV.int IntKind.i64 (IntKind.wrap IntKind.i64 (Int.tdiv (IntKind.wrap IntKind.i64 (IntKind.wrap IntKind.i64 (n * aM) * bM)) (IntKind.wrap IntKind.i64 (aM + bM))))) []))) := by kernel_rfl

theorem ok_l8Mass : FsOk Tryz.prog 248 fs_l8Mass := fsOk_of tt_ok tabFs_nil mixed Tryz.func248 (by kernel_rfl) (by kernel_rfl) (by
    intro args LL p r HH h hp
    unfold fs_l8Mass at h
    dsimp only at h
    split at h
    case h_2 => cases h
    rename_i aI aK aW aH aX aY aU aV aM aB aR aQ bI bK bW bH bX bY bU bV bM bB bR bQ n
    simp only [Option.some.injEq, Prod.mk.injEq] at h
    obtain ⟨rfl, rfl, rfl⟩ := h
    refine ⟨by simp [Form, stays], L0, ?_⟩
    rw [vc_l8Mass]
    try dsimp only
    obtain ⟨pa, pb⟩ := hp _ rfl
    refine ifB_of (fun c => ?_) (fun c => ifB_of (fun c2 => ?_) (fun c2 => ⟨?_, ?_⟩))
    · simp [together, c]
    · simp [together, c, c2]
    · have h1 := pa.m0
      have h2 := pa.m1
      have h3 := pb.m0
      have h4 := pb.m1
      simp only [beq_eq_false_iff_ne] at c c2 h1 h2 h3 h4
      rw [wrap_small (by omega) (by omega)]
      omega
    · simp [together, c, c2])

theorem pushV_zero {a b : Body} {h : Hit} {z : Bool} (hc : closing a b h.Way ≤ 0 ∨ (a.Mass == 0 && b.Mass == 0) = true) : pushV a b h z = ⟨0, 0⟩ := by
  unfold pushV
  rcases hc with hc | hc
  · simp [hc]
  · simp [hc]
theorem pushV_some {a b : Body} {h : Hit} {z : Bool} (hc : ¬ closing a b h.Way ≤ 0) (hm : (a.Mass == 0 && b.Mass == 0) = false) : pushV a b h z = pushW a b h (pushP a b (closing a b h.Way) z) := by
  unfold pushV
  rw [hm]
  simp [hc]
noncomputable def fs_implPushOfIn : Fs := ⟨[], fun args H => match args, H with
  | [.agg [.int .i64 aI, .int .i64 aK, .int .i64 aW, .int .i64 aH, .int .i64 aX, .int .i64 aY, .int .i64 aU, .int .i64 aV, .int .i64 aM, .int .i64 aB, .int .i64 aR, .int .i64 aQ], .agg [.int .i64 bI, .int .i64 bK, .int .i64 bW, .int .i64 bH, .int .i64 bX, .int .i64 bY, .int .i64 bU, .int .i64 bV, .int .i64 bM, .int .i64 bB, .int .i64 bR, .int .i64 bQ], .agg [.int .i64 hX, .int .i64 hY, .int .i64 hD], .bool z], [] => some ((some (POk (Body.mk aI (Shape.mk aK aW aH) (Vec.mk aX aY) (Vec.mk aU aV) aM aB aR aQ) ∧ POk (Body.mk bI (Shape.mk bK bW bH) (Vec.mk bX bY) (Vec.mk bU bV) bM bB bR bQ))), .agg [.int .i64 (pushV (Body.mk aI (Shape.mk aK aW aH) (Vec.mk aX aY) (Vec.mk aU aV) aM aB aR aQ) (Body.mk bI (Shape.mk bK bW bH) (Vec.mk bX bY) (Vec.mk bU bV) bM bB bR bQ) (Hit.mk (Vec.mk hX hY) hD) z).X, .int .i64 (pushV (Body.mk aI (Shape.mk aK aW aH) (Vec.mk aX aY) (Vec.mk aU aV) aM aB aR aQ) (Body.mk bI (Shape.mk bK bW bH) (Vec.mk bX bY) (Vec.mk bU bV) bM bB bR bQ) (Hit.mk (Vec.mk hX hY) hD) z).Y], [])
  | _, _ => none⟩

theorem vc_implPushOfIn (aI : Int) (aK : Int) (aW : Int) (aH : Int) (aX : Int) (aY : Int) (aU : Int) (aV : Int) (aM : Int) (aB : Int) (aR : Int) (aQ : Int) (bI : Int) (bK : Int) (bW : Int) (bH : Int) (bX : Int) (bY : Int) (bU : Int) (bV : Int) (bM : Int) (bB : Int) (bR : Int) (bQ : Int) (hX : Int) (hY : Int) (hD : Int) (z : Bool) (Q : SV → List Ent → Prop) :
    fnVC tt (look [(218, fs_implClosingIn), (140, fs_bodyFixed), (219, fs_implTogether), (220, fs_implWithin), (173, fs_vecClamped)]) L0 Tryz.f171 [.agg [.int .i64 aI, .int .i64 aK, .int .i64 aW, .int .i64 aH, .int .i64 aX, .int .i64 aY, .int .i64 aU, .int .i64 aV, .int .i64 aM, .int .i64 aB, .int .i64 aR, .int .i64 aQ], .agg [.int .i64 bI, .int .i64 bK, .int .i64 bW, .int .i64 bH, .int .i64 bX, .int .i64 bY, .int .i64 bU, .int .i64 bV, .int .i64 bM, .int .i64 bB, .int .i64 bR, .int .i64 bQ], .agg [.int .i64 hX, .int .i64 hY, .int .i64 hD], .bool z] [] Q =
    (let w_ := IntKind.wrap IntKind.i64; let s_ := SV.int IntKind.i64; let A2_ := (Body.mk bI (Shape.mk bK bW bH) (Vec.mk bX bY) (Vec.mk bU bV) bM bB bR bQ); let A1_ := (Body.mk aI (Shape.mk aK aW aH) (Vec.mk aX aY) (Vec.mk aU aV) aM aB aR aQ); let A5_ := (w_ (Int.tdiv (w_ (together A1_ A2_ (closing A1_ A2_ (Vec.mk hX hY)) * if bR < aR then bR else aR)) (256 : Int))); let A4_ := (together A1_ A2_ (closing A1_ A2_ (Vec.mk (w_ ((0 : Int) - hY)) hX))); let A9_ := (withinI (w_ (Int.tdiv (w_ (w_ (together A1_ A2_ (closing A1_ A2_ (Vec.mk hX hY)) * hY) + w_ (withinI A4_ A5_ * hX))) (256 : Int))) (20000000 : Int)); let A7_ := (withinI (w_ (Int.tdiv (w_ (w_ (together A1_ A2_ (closing A1_ A2_ (Vec.mk hX hY)) * hX) + w_ (withinI A4_ A5_ * w_ ((0 : Int) - hY)))) (256 : Int))) (20000000 : Int)); let A3_ := (w_ (closing A1_ A2_ (Vec.mk hX hY) + w_ (Int.tdiv (w_ (closing A1_ A2_ (Vec.mk hX hY) * if bB > aB then bB else aB)) (256 : Int)))); let A6_ := (w_ (Int.tdiv (w_ (together A1_ A2_ A3_ * if bR < aR then bR else aR)) (256 : Int))); let A10_ := (withinI (w_ (Int.tdiv (w_ (w_ (together A1_ A2_ A3_ * hY) + w_ (withinI A4_ A6_ * hX))) (256 : Int))) (20000000 : Int)); let A8_ := (withinI (w_ (Int.tdiv (w_ (w_ (together A1_ A2_ A3_ * hX) + w_ (withinI A4_ A6_ * w_ ((0 : Int) - hY)))) (256 : Int))) (20000000 : Int)); ifB (decide (closing A1_ A2_ (Vec.mk hX hY) ≤ (0 : Int))) (Q (SV.agg [s_ (0 : Int), s_ (0 : Int)]) []) (ifB (aM == (0 : Int)) (ifB (bM == (0 : Int)) (Q (SV.agg [s_ (0 : Int), s_ (0 : Int)]) []) (ifB z ((POk A1_ ∧ POk A2_) ∧ (POk A1_ ∧ POk A2_) ∧ Q (SV.agg [s_ A8_, s_ A10_]) []) ((POk A1_ ∧ POk A2_) ∧ (POk A1_ ∧ POk A2_) ∧ Q (SV.agg [s_ A7_, s_ A9_]) []))) (ifB z ((POk A1_ ∧ POk A2_) ∧ (POk A1_ ∧ POk A2_) ∧ Q (SV.agg [s_ A8_, s_ A10_]) []) ((POk A1_ ∧ POk A2_) ∧ (POk A1_ ∧ POk A2_) ∧ Q (SV.agg [s_ A7_, s_ A9_]) [])))) := by kernel_rfl

theorem ok_implPushOfIn : FsOk Tryz.prog 171 fs_implPushOfIn := fsOk_of tt_ok (tabFs_cons ok_implClosingIn (tabFs_cons ok_bodyFixed (tabFs_cons ok_implTogether (tabFs_cons ok_implWithin (tabFs_cons ok_vecClamped tabFs_nil))))) mixed Tryz.func171 (by kernel_rfl) (by kernel_rfl) (by
    intro args LL p r HH h hp
    unfold fs_implPushOfIn at h
    dsimp only at h
    split at h
    case h_2 => cases h
    rename_i aI aK aW aH aX aY aU aV aM aB aR aQ bI bK bW bH bX bY bU bV bM bB bR bQ hX hY hD z
    simp only [Option.some.injEq, Prod.mk.injEq] at h
    obtain ⟨rfl, rfl, rfl⟩ := h
    refine ⟨by simp [Form, stays], L0, ?_⟩
    rw [vc_implPushOfIn]
    try dsimp only
    obtain ⟨pa, pb⟩ := hp _ rfl
    have pz : closing (Body.mk aI (Shape.mk aK aW aH) (Vec.mk aX aY) (Vec.mk aU aV) aM aB aR aQ) (Body.mk bI (Shape.mk bK bW bH) (Vec.mk bX bY) (Vec.mk bU bV) bM bB bR bQ) (Vec.mk hX hY) ≤ 0 ∨ (aM == 0 && bM == 0) = true → pushV (Body.mk aI (Shape.mk aK aW aH) (Vec.mk aX aY) (Vec.mk aU aV) aM aB aR aQ) (Body.mk bI (Shape.mk bK bW bH) (Vec.mk bX bY) (Vec.mk bU bV) bM bB bR bQ) (Hit.mk (Vec.mk hX hY) hD) z = ⟨0, 0⟩ := fun q => pushV_zero (h := (Hit.mk (Vec.mk hX hY) hD)) q
    have ps : ¬ closing (Body.mk aI (Shape.mk aK aW aH) (Vec.mk aX aY) (Vec.mk aU aV) aM aB aR aQ) (Body.mk bI (Shape.mk bK bW bH) (Vec.mk bX bY) (Vec.mk bU bV) bM bB bR bQ) (Vec.mk hX hY) ≤ 0 → (aM == 0 && bM == 0) = false → pushV (Body.mk aI (Shape.mk aK aW aH) (Vec.mk aX aY) (Vec.mk aU aV) aM aB aR aQ) (Body.mk bI (Shape.mk bK bW bH) (Vec.mk bX bY) (Vec.mk bU bV) bM bB bR bQ) (Hit.mk (Vec.mk hX hY) hD) z = pushW (Body.mk aI (Shape.mk aK aW aH) (Vec.mk aX aY) (Vec.mk aU aV) aM aB aR aQ) (Body.mk bI (Shape.mk bK bW bH) (Vec.mk bX bY) (Vec.mk bU bV) bM bB bR bQ) (Hit.mk (Vec.mk hX hY) hD) (pushP (Body.mk aI (Shape.mk aK aW aH) (Vec.mk aX aY) (Vec.mk aU aV) aM aB aR aQ) (Body.mk bI (Shape.mk bK bW bH) (Vec.mk bX bY) (Vec.mk bU bV) bM bB bR bQ) (closing (Body.mk aI (Shape.mk aK aW aH) (Vec.mk aX aY) (Vec.mk aU aV) aM aB aR aQ) (Body.mk bI (Shape.mk bK bW bH) (Vec.mk bX bY) (Vec.mk bU bV) bM bB bR bQ) (Vec.mk hX hY)) z) := fun q r => pushV_some (h := (Hit.mk (Vec.mk hX hY) hD)) q r
    refine ifB_of (fun c1 => ?_) (fun c1 => ?_)
    · rw [pz (.inl (of_decide_eq_true c1))]
      exact ⟨(by trivial), (by trivial)⟩
    have c1 := of_decide_eq_false c1
    simp only [max_if, min_if]
    refine ifB_of (fun c2 => ifB_of (fun c3 => ?_) (fun c3 => ?_)) (fun c2 => ?_)
    · rw [pz (.inr (by simp [c2, c3]))]
      exact ⟨(by trivial), (by trivial)⟩
    · have hm : ¬ (aM = 0 ∧ bM = 0) := by simp at c2 c3; omega
      rw [ps c1 (by simp [c2, c3])]
      refine ifB_of (fun c4 => ?_) (fun c4 => ?_)
      · subst c4
        refine ⟨⟨pa, pb⟩, ⟨pa, pb⟩, ?_⟩
        (exact ⟨(by trivial), (by trivial)⟩)
      · subst c4
        refine ⟨⟨pa, pb⟩, ⟨pa, pb⟩, ?_⟩
        (exact ⟨(by trivial), (by trivial)⟩)
    · have hm : ¬ (aM = 0 ∧ bM = 0) := by simp at c2; omega
      rw [ps c1 (by simp [c2])]
      refine ifB_of (fun c4 => ?_) (fun c4 => ?_)
      · subst c4
        refine ⟨⟨pa, pb⟩, ⟨pa, pb⟩, ?_⟩
        (exact ⟨(by trivial), (by trivial)⟩)
      · subst c4
        refine ⟨⟨pa, pb⟩, ⟨pa, pb⟩, ?_⟩
        (exact ⟨(by trivial), (by trivial)⟩))

noncomputable def fs_l8Push : Fs := ⟨[], fun args H => match args, H with
  | [.agg [.int .i64 aI, .int .i64 aK, .int .i64 aW, .int .i64 aH, .int .i64 aX, .int .i64 aY, .int .i64 aU, .int .i64 aV, .int .i64 aM, .int .i64 aB, .int .i64 aR, .int .i64 aQ], .agg [.int .i64 bI, .int .i64 bK, .int .i64 bW, .int .i64 bH, .int .i64 bX, .int .i64 bY, .int .i64 bU, .int .i64 bV, .int .i64 bM, .int .i64 bB, .int .i64 bR, .int .i64 bQ], .agg [.int .i64 hX, .int .i64 hY, .int .i64 hD], .bool z], [] => some ((some (POk (Body.mk aI (Shape.mk aK aW aH) (Vec.mk aX aY) (Vec.mk aU aV) aM aB aR aQ) ∧ POk (Body.mk bI (Shape.mk bK bW bH) (Vec.mk bX bY) (Vec.mk bU bV) bM bB bR bQ))), .agg [.int .i64 (pushV (Body.mk aI (Shape.mk aK aW aH) (Vec.mk aX aY) (Vec.mk aU aV) aM aB aR aQ) (Body.mk bI (Shape.mk bK bW bH) (Vec.mk bX bY) (Vec.mk bU bV) bM bB bR bQ) (Hit.mk (Vec.mk hX hY) hD) z).X, .int .i64 (pushV (Body.mk aI (Shape.mk aK aW aH) (Vec.mk aX aY) (Vec.mk aU aV) aM aB aR aQ) (Body.mk bI (Shape.mk bK bW bH) (Vec.mk bX bY) (Vec.mk bU bV) bM bB bR bQ) (Hit.mk (Vec.mk hX hY) hD) z).Y], [])
  | _, _ => none⟩

theorem vc_l8Push (aI : Int) (aK : Int) (aW : Int) (aH : Int) (aX : Int) (aY : Int) (aU : Int) (aV : Int) (aM : Int) (aB : Int) (aR : Int) (aQ : Int) (bI : Int) (bK : Int) (bW : Int) (bH : Int) (bX : Int) (bY : Int) (bU : Int) (bV : Int) (bM : Int) (bB : Int) (bR : Int) (bQ : Int) (hX : Int) (hY : Int) (hD : Int) (z : Bool) (Q : SV → List Ent → Prop) :
    fnVC tt (look [(247, fs_l8Closing), (237, fs_l3More), (248, fs_l8Mass), (249, fs_specVecDot), (250, fs_specVecSub), (217, fs_specSpeed), (213, fs_l3Less), (211, fs_specWithin)]) L0 Tryz.f227 [.agg [.int .i64 aI, .int .i64 aK, .int .i64 aW, .int .i64 aH, .int .i64 aX, .int .i64 aY, .int .i64 aU, .int .i64 aV, .int .i64 aM, .int .i64 aB, .int .i64 aR, .int .i64 aQ], .agg [.int .i64 bI, .int .i64 bK, .int .i64 bW, .int .i64 bH, .int .i64 bX, .int .i64 bY, .int .i64 bU, .int .i64 bV, .int .i64 bM, .int .i64 bB, .int .i64 bR, .int .i64 bQ], .agg [.int .i64 hX, .int .i64 hY, .int .i64 hD], .bool z] [] Q =
    (let w_ := IntKind.wrap IntKind.i64; let s_ := SV.int IntKind.i64; let A2_ := (Body.mk bI (Shape.mk bK bW bH) (Vec.mk bX bY) (Vec.mk bU bV) bM bB bR bQ); let A1_ := (Body.mk aI (Shape.mk aK aW aH) (Vec.mk aX aY) (Vec.mk aU aV) aM aB aR aQ); let A4_ := (together A1_ A2_ (dot (vecSub (speed A1_) (speed A2_)) (Vec.mk (w_ ((0 : Int) - hY)) hX))); let A6_ := (withinS (w_ (Int.tdiv (w_ (w_ (together A1_ A2_ (closing A1_ A2_ (Vec.mk hX hY)) * hY) + w_ (withinS A4_ (w_ (Int.tdiv (w_ (together A1_ A2_ (closing A1_ A2_ (Vec.mk hX hY)) * min aR bR)) (256 : Int))) * hX))) (256 : Int))) (20000000 : Int)); let A5_ := (withinS (w_ (Int.tdiv (w_ (w_ (together A1_ A2_ (closing A1_ A2_ (Vec.mk hX hY)) * hX) + w_ (withinS A4_ (w_ (Int.tdiv (w_ (together A1_ A2_ (closing A1_ A2_ (Vec.mk hX hY)) * min aR bR)) (256 : Int))) * w_ ((0 : Int) - hY)))) (256 : Int))) (20000000 : Int)); let A3_ := (w_ (closing A1_ A2_ (Vec.mk hX hY) + w_ (Int.tdiv (w_ (closing A1_ A2_ (Vec.mk hX hY) * max aB bB)) (256 : Int)))); let A8_ := (withinS (w_ (Int.tdiv (w_ (w_ (together A1_ A2_ A3_ * hY) + w_ (withinS A4_ (w_ (Int.tdiv (w_ (together A1_ A2_ A3_ * min aR bR)) (256 : Int))) * hX))) (256 : Int))) (20000000 : Int)); let A7_ := (withinS (w_ (Int.tdiv (w_ (w_ (together A1_ A2_ A3_ * hX) + w_ (withinS A4_ (w_ (Int.tdiv (w_ (together A1_ A2_ A3_ * min aR bR)) (256 : Int))) * w_ ((0 : Int) - hY)))) (256 : Int))) (20000000 : Int)); ifB (decide (closing A1_ A2_ (Vec.mk hX hY) ≤ (0 : Int))) (Q (SV.agg [s_ (0 : Int), s_ (0 : Int)]) []) (ifB (aM == (0 : Int)) (ifB (bM == (0 : Int)) (Q (SV.agg [s_ (0 : Int), s_ (0 : Int)]) []) (ifB z ((POk A1_ ∧ POk A2_) ∧ (POk A1_ ∧ POk A2_) ∧ Q (SV.agg [s_ A7_, s_ A8_]) []) ((POk A1_ ∧ POk A2_) ∧ (POk A1_ ∧ POk A2_) ∧ Q (SV.agg [s_ A5_, s_ A6_]) []))) (ifB z ((POk A1_ ∧ POk A2_) ∧ (POk A1_ ∧ POk A2_) ∧ Q (SV.agg [s_ A7_, s_ A8_]) []) ((POk A1_ ∧ POk A2_) ∧ (POk A1_ ∧ POk A2_) ∧ Q (SV.agg [s_ A5_, s_ A6_]) [])))) := by kernel_rfl

theorem ok_l8Push : FsOk Tryz.prog 227 fs_l8Push := fsOk_of tt_ok (tabFs_cons ok_l8Closing (tabFs_cons ok_l3More (tabFs_cons ok_l8Mass (tabFs_cons ok_specVecDot (tabFs_cons ok_specVecSub (tabFs_cons ok_specSpeed (tabFs_cons ok_l3Less (tabFs_cons ok_specWithin tabFs_nil)))))))) mixed Tryz.func227 (by kernel_rfl) (by kernel_rfl) (by
    intro args LL p r HH h hp
    unfold fs_l8Push at h
    dsimp only at h
    split at h
    case h_2 => cases h
    rename_i aI aK aW aH aX aY aU aV aM aB aR aQ bI bK bW bH bX bY bU bV bM bB bR bQ hX hY hD z
    simp only [Option.some.injEq, Prod.mk.injEq] at h
    obtain ⟨rfl, rfl, rfl⟩ := h
    refine ⟨by simp [Form, stays], L0, ?_⟩
    rw [vc_l8Push]
    try dsimp only
    obtain ⟨pa, pb⟩ := hp _ rfl
    have pz : closing (Body.mk aI (Shape.mk aK aW aH) (Vec.mk aX aY) (Vec.mk aU aV) aM aB aR aQ) (Body.mk bI (Shape.mk bK bW bH) (Vec.mk bX bY) (Vec.mk bU bV) bM bB bR bQ) (Vec.mk hX hY) ≤ 0 ∨ (aM == 0 && bM == 0) = true → pushV (Body.mk aI (Shape.mk aK aW aH) (Vec.mk aX aY) (Vec.mk aU aV) aM aB aR aQ) (Body.mk bI (Shape.mk bK bW bH) (Vec.mk bX bY) (Vec.mk bU bV) bM bB bR bQ) (Hit.mk (Vec.mk hX hY) hD) z = ⟨0, 0⟩ := fun q => pushV_zero (h := (Hit.mk (Vec.mk hX hY) hD)) q
    have ps : ¬ closing (Body.mk aI (Shape.mk aK aW aH) (Vec.mk aX aY) (Vec.mk aU aV) aM aB aR aQ) (Body.mk bI (Shape.mk bK bW bH) (Vec.mk bX bY) (Vec.mk bU bV) bM bB bR bQ) (Vec.mk hX hY) ≤ 0 → (aM == 0 && bM == 0) = false → pushV (Body.mk aI (Shape.mk aK aW aH) (Vec.mk aX aY) (Vec.mk aU aV) aM aB aR aQ) (Body.mk bI (Shape.mk bK bW bH) (Vec.mk bX bY) (Vec.mk bU bV) bM bB bR bQ) (Hit.mk (Vec.mk hX hY) hD) z = pushW (Body.mk aI (Shape.mk aK aW aH) (Vec.mk aX aY) (Vec.mk aU aV) aM aB aR aQ) (Body.mk bI (Shape.mk bK bW bH) (Vec.mk bX bY) (Vec.mk bU bV) bM bB bR bQ) (Hit.mk (Vec.mk hX hY) hD) (pushP (Body.mk aI (Shape.mk aK aW aH) (Vec.mk aX aY) (Vec.mk aU aV) aM aB aR aQ) (Body.mk bI (Shape.mk bK bW bH) (Vec.mk bX bY) (Vec.mk bU bV) bM bB bR bQ) (closing (Body.mk aI (Shape.mk aK aW aH) (Vec.mk aX aY) (Vec.mk aU aV) aM aB aR aQ) (Body.mk bI (Shape.mk bK bW bH) (Vec.mk bX bY) (Vec.mk bU bV) bM bB bR bQ) (Vec.mk hX hY)) z) := fun q r => pushV_some (h := (Hit.mk (Vec.mk hX hY) hD)) q r
    refine ifB_of (fun c1 => ?_) (fun c1 => ?_)
    · rw [pz (.inl (of_decide_eq_true c1))]
      exact ⟨(by trivial), (by trivial)⟩
    have c1 := of_decide_eq_false c1
    have k : ∀ n, withinS n 20000000 = withinI n 20000000 := fun n => withinS_eq (by omega) (by omega)
    have cl := closing_le (Body.mk aI (Shape.mk aK aW aH) (Vec.mk aX aY) (Vec.mk aU aV) aM aB aR aQ) (Body.mk bI (Shape.mk bK bW bH) (Vec.mk bX bY) (Vec.mk bU bV) bM bB bR bQ) (Vec.mk hX hY)
    simp only [k]
    have key : ∀ (z : Bool), ¬ (aM = 0 ∧ bM = 0) → ∀ n, withinS n (W ((W (pushP (Body.mk aI (Shape.mk aK aW aH) (Vec.mk aX aY) (Vec.mk aU aV) aM aB aR aQ) (Body.mk bI (Shape.mk bK bW bH) (Vec.mk bX bY) (Vec.mk bU bV) bM bB bR bQ) (closing (Body.mk aI (Shape.mk aK aW aH) (Vec.mk aX aY) (Vec.mk aU aV) aM aB aR aQ) (Body.mk bI (Shape.mk bK bW bH) (Vec.mk bX bY) (Vec.mk bU bV) bM bB bR bQ) (Vec.mk hX hY)) z * min aR bR)).tdiv 256)) = withinI n (W ((W (pushP (Body.mk aI (Shape.mk aK aW aH) (Vec.mk aX aY) (Vec.mk aU aV) aM aB aR aQ) (Body.mk bI (Shape.mk bK bW bH) (Vec.mk bX bY) (Vec.mk bU bV) bM bB bR bQ) (closing (Body.mk aI (Shape.mk aK aW aH) (Vec.mk aX aY) (Vec.mk aU aV) aM aB aR aQ) (Body.mk bI (Shape.mk bK bW bH) (Vec.mk bX bY) (Vec.mk bU bV) bM bB bR bQ) (Vec.mk hX hY)) z * min aR bR)).tdiv 256)) := by
      intro z hm n
      have hp := pushP_le pa pb hm (show 0 ≤ closing (Body.mk aI (Shape.mk aK aW aH) (Vec.mk aX aY) (Vec.mk aU aV) aM aB aR aQ) (Body.mk bI (Shape.mk bK bW bH) (Vec.mk bX bY) (Vec.mk bU bV) bM bB bR bQ) (Vec.mk hX hY) by omega) cl.2 z
      have hq := most_le pa pb hp.1 hp.2
      exact withinS_eq hq.1 (Int.le_trans hq.2 (by omega))
    refine ifB_of (fun c2 => ifB_of (fun c3 => ?_) (fun c3 => ?_)) (fun c2 => ?_)
    · rw [pz (.inr (by simp [c2, c3]))]
      exact ⟨(by trivial), (by trivial)⟩
    · have hm : ¬ (aM = 0 ∧ bM = 0) := by simp at c2 c3; omega
      rw [ps c1 (by simp [c2, c3])]
      refine ifB_of (fun c4 => ?_) (fun c4 => ?_)
      · subst c4
        refine ⟨⟨pa, pb⟩, ⟨pa, pb⟩, ?_⟩
        (have q := key true hm; simp only [pushP, cond_true, cond_false] at q; rw [q]; exact ⟨rfl, (by trivial)⟩)
      · subst c4
        refine ⟨⟨pa, pb⟩, ⟨pa, pb⟩, ?_⟩
        (have q := key false hm; simp only [pushP, cond_true, cond_false] at q; rw [q]; exact ⟨rfl, (by trivial)⟩)
    · have hm : ¬ (aM = 0 ∧ bM = 0) := by simp at c2; omega
      rw [ps c1 (by simp [c2])]
      refine ifB_of (fun c4 => ?_) (fun c4 => ?_)
      · subst c4
        refine ⟨⟨pa, pb⟩, ⟨pa, pb⟩, ?_⟩
        (have q := key true hm; simp only [pushP, cond_true, cond_false] at q; rw [q]; exact ⟨rfl, (by trivial)⟩)
      · subst c4
        refine ⟨⟨pa, pb⟩, ⟨pa, pb⟩, ?_⟩
        (have q := key false hm; simp only [pushP, cond_true, cond_false] at q; rw [q]; exact ⟨rfl, (by trivial)⟩))


structure World where
  Tick : Int
  Pull : Int
  Bodies : List Body
  Pairs : List Pair
instance : Nonempty World := ⟨⟨0, 0, [], []⟩⟩
noncomputable def eqW4 (a b : Int) (xs : List Body) (ps : List Pair) (c d : Int) (ys : List Body) (qs : List Pair) : Bool := a == c && b == d && (same xs ys && same ps qs)
@[simp] theorem eqW4_self (a b : Int) (xs : List Body) (ps : List Pair) : eqW4 a b xs ps a b xs ps = true := by simp [eqW4]
noncomputable def fs_lawsEqWorld : Fs := ⟨[], fun args H => match args, H with
  | [.agg [.int .i64 a, .int .i64 b, .vec 0, .vec 1], .agg [.int .i64 c, .int .i64 d, .vec 2, .vec 3]], [(false, .vec .body xs), (false, .vec .pair ps), (false, .vec .body ys), (false, .vec .pair qs)] => some ((some (xs.length ≤ 4611686018427387904 ∧ ps.length ≤ 4611686018427387904)), .bool (eqW4 a b xs ps c d ys qs), [(false, .vec .body xs), (false, .vec .pair ps), (false, .vec .body ys), (false, .vec .pair qs)])
  | _, _ => none⟩

theorem vc_lawsEqWorld (a : Int) (b : Int) (xs : List Body) (ps : List Pair) (c : Int) (d : Int) (ys : List Body) (qs : List Pair) (Q : SV → List Ent → Prop) :
    fnVC tt (look [(18, fs_lawsEqBodyS), (98, fs_lawsEqPairS)]) L0 Tryz.f27 [.agg [.int .i64 a, .int .i64 b, .vec 0, .vec 1], .agg [.int .i64 c, .int .i64 d, .vec 2, .vec 3]] [(false, .vec .body xs), (false, .vec .pair ps), (false, .vec .body ys), (false, .vec .pair qs)] Q =
    (ifB (a != c) (Q (SV.bool false) [(false, Blk.vec Ty.body xs), (false, Blk.vec Ty.pair ps), (false, Blk.vec Ty.body ys), (false, Blk.vec Ty.pair qs)]) (ifB (b != d) (Q (SV.bool false) [(false, Blk.vec Ty.body xs), (false, Blk.vec Ty.pair ps), (false, Blk.vec Ty.body ys), (false, Blk.vec Ty.pair qs)]) (List.length xs ≤ (4611686018427387904 : Nat) ∧ ifB (!same xs ys) (Q (SV.bool false) [(false, Blk.vec Ty.body xs), (false, Blk.vec Ty.pair ps), (false, Blk.vec Ty.body ys), (false, Blk.vec Ty.pair qs)]) (List.length ps ≤ (4611686018427387904 : Nat) ∧ ifB (!same ps qs) (Q (SV.bool false) [(false, Blk.vec Ty.body xs), (false, Blk.vec Ty.pair ps), (false, Blk.vec Ty.body ys), (false, Blk.vec Ty.pair qs)]) (Q (SV.bool true) [(false, Blk.vec Ty.body xs), (false, Blk.vec Ty.pair ps), (false, Blk.vec Ty.body ys), (false, Blk.vec Ty.pair qs)]))))) := by kernel_rfl

theorem ok_lawsEqWorld : FsOk Tryz.prog 27 fs_lawsEqWorld := fsOk_of tt_ok (tabFs_cons ok_lawsEqBodyS (tabFs_cons ok_lawsEqPairS tabFs_nil)) mixed Tryz.func27 (by kernel_rfl) (by kernel_rfl) (by
    intro args LL p r HH h hp
    unfold fs_lawsEqWorld at h
    dsimp only at h
    split at h
    case h_2 => cases h
    rename_i a b c d xs ps ys qs
    simp only [Option.some.injEq, Prod.mk.injEq] at h
    obtain ⟨rfl, rfl, rfl⟩ := h
    refine ⟨by simp [Form, stays], L0, ?_⟩
    rw [vc_lawsEqWorld]
    try dsimp only
    obtain ⟨h1, h2⟩ := hp _ rfl
    repeat' (first | refine ifB_of (fun _ => ?_) (fun _ => ?_) | refine pre_of h1 (fun _ => ?_) | refine pre_of h2 (fun _ => ?_) | fail)
    all_goals simp_all [eqW4])

noncomputable def fs_lawsMarkWorld : Fs := ⟨[true], fun args H => match args, H with
  | [.agg [.int .i64 a, .int .i64 b, .vec 0, .vec 1], .int .i64 k], [(true, .vec .body xs), (true, .vec .pair ps)] => some ((some (xs.length ≤ 1048576 ∧ ps.length ≤ 1048576 ∧ 0 ≤ k ∧ k ≤ 10000000000)), .int .i64 (k + 12 * xs.length + 2 * ps.length), [(true, .vec .body (gen (fun e => mkBody (k + 12 * (e : Int))) xs.length)), (true, .vec .pair (gen (fun e => mkPair (k + 12 * xs.length + 2 * (e : Int))) ps.length))])
  | _, _ => none⟩

theorem vc_lawsMarkWorld (a : Int) (b : Int) (k : Int) (xs : List Body) (ps : List Pair) (Q : SV → List Ent → Prop) :
    fnVC tt (look [(19, fs_lawsMarkBodyS), (100, fs_lawsMarkPairS)]) L0 Tryz.f29 [.agg [.int .i64 a, .int .i64 b, .vec 0, .vec 1], .int .i64 k] [(true, .vec .body xs), (true, .vec .pair ps)] Q =
    ((List.length xs ≤ (1048576 : Nat) ∧ (0 : Int) ≤ k ∧ k ≤ (1000000000000 : Int)) ∧ (List.length ps ≤ (1048576 : Nat) ∧ (0 : Int) ≤ k + (12 : Int) * (↑(List.length xs) : Int) ∧ k + (12 : Int) * (↑(List.length xs) : Int) ≤ (1000000000000 : Int)) ∧ Q (SV.int IntKind.i64 (k + (12 : Int) * (↑(List.length xs) : Int) + (2 : Int) * (↑(List.length ps) : Int))) [(true, Blk.vec Ty.body (gen (fun e => mkBody (k + (12 : Int) * (↑e : Int))) (List.length xs))), (true, Blk.vec Ty.pair (gen (fun e => mkPair (k + (12 : Int) * (↑(List.length xs) : Int) + (2 : Int) * (↑e : Int))) (List.length ps)))]) := by kernel_rfl

theorem ok_lawsMarkWorld : FsOk Tryz.prog 29 fs_lawsMarkWorld := fsOk_of tt_ok (tabFs_cons ok_lawsMarkBodyS (tabFs_cons ok_lawsMarkPairS tabFs_nil)) mixed Tryz.func29 (by kernel_rfl) (by kernel_rfl) (by
    intro args LL p r HH h hp
    unfold fs_lawsMarkWorld at h
    dsimp only at h
    split at h
    case h_2 => cases h
    rename_i a b k xs ps
    simp only [Option.some.injEq, Prod.mk.injEq] at h
    obtain ⟨rfl, rfl, rfl⟩ := h
    refine ⟨by simp [Form, stays], L0, ?_⟩
    rw [vc_lawsMarkWorld]
    try dsimp only
    obtain ⟨h1, h2, h3, h4⟩ := hp _ rfl
    exact ⟨⟨h1, h3, by omega⟩, ⟨h2, by omega, by omega⟩, rfl, rfl⟩)

noncomputable def heldW (k : Int) (xs : List Body) (ps : List Pair) : Int :=
  bif same xs (gen (fun e => mkBody (k + 12 * (e : Int))) xs.length) && same ps (gen (fun e => mkPair (k + 12 * xs.length + 2 * (e : Int))) ps.length) then k + 12 * xs.length + 2 * ps.length else -1
noncomputable def fs_lawsHeldWorld : Fs := ⟨[], fun args H => match args, H with
  | [.agg [.int .i64 a, .int .i64 b, .vec 0, .vec 1], .int .i64 k], [(false, .vec .body xs), (false, .vec .pair ps)] => some ((some (xs.length ≤ 1048576 ∧ ps.length ≤ 1048576 ∧ 0 ≤ k ∧ k ≤ 10000000000)), .int .i64 (heldW k xs ps), [(false, .vec .body xs), (false, .vec .pair ps)])
  | _, _ => none⟩

theorem vc_lawsHeldWorld (a : Int) (b : Int) (k : Int) (xs : List Body) (ps : List Pair) (Q : SV → List Ent → Prop) :
    fnVC tt (look [(20, fs_lawsHeldBodyS), (101, fs_lawsHeldPairS)]) L0 Tryz.f31 [.agg [.int .i64 a, .int .i64 b, .vec 0, .vec 1], .int .i64 k] [(false, .vec .body xs), (false, .vec .pair ps)] Q =
    ((List.length xs ≤ (1048576 : Nat) ∧ (0 : Int) ≤ k ∧ k ≤ (1000000000000 : Int)) ∧ ifB (decide ((bif same xs (gen (fun e => mkBody (k + (12 : Int) * (↑e : Int))) (List.length xs)) then k + (12 : Int) * (↑(List.length xs) : Int) else (-1 : Int)) < (0 : Int))) (Q (SV.int IntKind.i64 (-1 : Int)) [(false, Blk.vec Ty.body xs), (false, Blk.vec Ty.pair ps)]) ((List.length ps ≤ (1048576 : Nat) ∧ ((0 : Int) ≤ bif same xs (gen (fun e => mkBody (k + (12 : Int) * (↑e : Int))) (List.length xs)) then k + (12 : Int) * (↑(List.length xs) : Int) else (-1 : Int)) ∧ (bif same xs (gen (fun e => mkBody (k + (12 : Int) * (↑e : Int))) (List.length xs)) then k + (12 : Int) * (↑(List.length xs) : Int) else (-1 : Int)) ≤ (1000000000000 : Int)) ∧ ifB (decide ((bif same ps (gen (fun e => mkPair ((bif same xs (gen (fun e => mkBody (k + (12 : Int) * (↑e : Int))) (List.length xs)) then k + (12 : Int) * (↑(List.length xs) : Int) else (-1 : Int)) + (2 : Int) * (↑e : Int))) (List.length ps)) then (bif same xs (gen (fun e => mkBody (k + (12 : Int) * (↑e : Int))) (List.length xs)) then k + (12 : Int) * (↑(List.length xs) : Int) else (-1 : Int)) + (2 : Int) * (↑(List.length ps) : Int) else (-1 : Int)) < (0 : Int))) (Q (SV.int IntKind.i64 (-1 : Int)) [(false, Blk.vec Ty.body xs), (false, Blk.vec Ty.pair ps)]) (Q (SV.int IntKind.i64 (bif same ps (gen (fun e => mkPair ((bif same xs (gen (fun e => mkBody (k + (12 : Int) * (↑e : Int))) (List.length xs)) then k + (12 : Int) * (↑(List.length xs) : Int) else (-1 : Int)) + (2 : Int) * (↑e : Int))) (List.length ps)) then (bif same xs (gen (fun e => mkBody (k + (12 : Int) * (↑e : Int))) (List.length xs)) then k + (12 : Int) * (↑(List.length xs) : Int) else (-1 : Int)) + (2 : Int) * (↑(List.length ps) : Int) else (-1 : Int))) [(false, Blk.vec Ty.body xs), (false, Blk.vec Ty.pair ps)]))) := by kernel_rfl

theorem ok_lawsHeldWorld : FsOk Tryz.prog 31 fs_lawsHeldWorld := fsOk_of tt_ok (tabFs_cons ok_lawsHeldBodyS (tabFs_cons ok_lawsHeldPairS tabFs_nil)) mixed Tryz.func31 (by kernel_rfl) (by kernel_rfl) (by
    intro args LL p r HH h hp
    unfold fs_lawsHeldWorld at h
    dsimp only at h
    split at h
    case h_2 => cases h
    rename_i a b k xs ps
    simp only [Option.some.injEq, Prod.mk.injEq] at h
    obtain ⟨rfl, rfl, rfl⟩ := h
    refine ⟨by simp [Form, stays], L0, ?_⟩
    rw [vc_lawsHeldWorld]
    try dsimp only
    obtain ⟨h1, h2, h3, h4⟩ := hp _ rfl
    refine ⟨⟨h1, h3, by omega⟩, ?_⟩
    unfold heldW
    cases c1 : same xs (gen (fun e => mkBody (k + 12 * (e : Int))) xs.length) with
    | false => exact ⟨rfl, rfl⟩
    | true =>
      simp only [cond_true, Bool.true_and]
      refine ifB_of (fun c => ?_) (fun c => ?_)
      · have c := of_decide_eq_true c
        omega
      refine ⟨⟨h2, by omega, by omega⟩, ?_⟩
      rcases Bool.eq_false_or_eq_true (same ps (gen (fun e => mkPair (k + 12 * xs.length + 2 * (e : Int))) ps.length)) with c2 | c2 <;> simp only [c2, cond_true, cond_false]
      · refine ifB_of (fun c => ?_) (fun c => ⟨(by trivial), (by trivial)⟩)
        have c := of_decide_eq_true c
        omega
      · exact ⟨(by trivial), (by trivial)⟩)

theorem heldW_marked {k : Int} {m n : Nat} : heldW k (gen (fun e => mkBody (k + 12 * (e : Int))) m) (gen (fun e => mkPair (k + 12 * m + 2 * (e : Int))) n) = k + 12 * m + 2 * n := by
  simp [heldW]
end Go.Proofs.YtdhbkcaaijgocaaGreat.Sym

namespace Go.Proofs.YtdhbkcaaijgocaaGreat.Sym
open Go
set_option linter.unusedVariables false
set_option linter.unusedSimpArgs false
set_option maxRecDepth 100000

theorem sq_le {x y : Int} (h0 : 0 ≤ x) (h : x ≤ y) : x * x ≤ y * y := Int.mul_le_mul h h h0 (by omega)
def IsRoot (n r : Int) : Prop := 0 ≤ r ∧ r * r ≤ n ∧ n < (r + 1) * (r + 1)
theorem isRoot_one {n r s : Int} (h : IsRoot n r) (k : IsRoot n s) : r = s := by
  obtain ⟨a1, a2, a3⟩ := h
  obtain ⟨b1, b2, b3⟩ := k
  rcases Int.lt_trichotomy r s with c | c | c
  · have := sq_le (x := r + 1) (y := s) (by omega) (by omega)
    omega
  · exact c
  · have := sq_le (x := s + 1) (y := r) (by omega) (by omega)
    omega
open Classical in
noncomputable def rootI (n : Int) : Int := if h : ∃ r, IsRoot n r then Classical.choose h else 0
theorem rootI_eq {n r : Int} (h : IsRoot n r) : rootI n = r := by
  unfold rootI
  have hx : ∃ r, IsRoot n r := ⟨r, h⟩
  rw [dif_pos hx]
  exact isRoot_one (Classical.choose_spec hx) h
def LSl1Root1  : LS where
  S := Int × Int × Int
  live := [(0, [none]), (3, [none]), (4, [none])]
  shape := fun s => ([.int .i64 s.1, .int .i64 s.2.1, .int .i64 s.2.2], [])
  get := fun v h => match v, h with
    | [.int .i64 n, .int .i64 low, .int .i64 high], [] => some (n, low, high)
    | _, _ => none
  inv := fun s0 s => Holds (s.1 = s0.1 ∧ s.2.1 = 0 ∧ 1 ≤ s.2.2 ∧ s.2.2 ≤ 2828427124)
  mu := fun s => (2828427130 - s.2.2).toNat
  ok := by
    intro v h s hg
    try dsimp only at hg
    split at hg <;> cases hg
    rfl

def LSl1Root2  : LS where
  S := Int × Int × Int
  live := [(0, [none]), (3, [none]), (4, [none])]
  shape := fun s => ([.int .i64 s.1, .int .i64 s.2.1, .int .i64 s.2.2], [])
  get := fun v h => match v, h with
    | [.int .i64 n, .int .i64 low, .int .i64 high], [] => some (n, low, high)
    | _, _ => none
  inv := fun s0 s => Holds (s.1 = s0.1 ∧ 0 ≤ s.2.1 ∧ s.2.1 < s.2.2 ∧ s.2.2 ≤ 2828427124 ∧ s.2.1 * s.2.1 ≤ s0.1 ∧ s0.1 < s.2.2 * s.2.2)
  mu := fun s => (s.2.2 - s.2.1).toNat
  ok := by
    intro v h s hg
    try dsimp only at hg
    split at hg <;> cases hg
    rfl

def L_l1Root : Loops := fun n => match n with
  | 3 => some LSl1Root1
  | 5 => some LSl1Root2
  | _ => none
noncomputable def fs_l1Root : Fs := ⟨[], fun args H => match args, H with
  | [.int .i64 n], [] => some ((some (0 ≤ n ∧ n ≤ 2000000000000000000)), .int .i64 (rootI n), [])
  | _, _ => none⟩

theorem vc_l1Root (n : Int) (Q : SV → List Ent → Prop) :
    fnVC tt (look []) (L_l1Root) Tryz.f246 [.int .i64 n] [] Q =
    (let w_ := IntKind.wrap IntKind.i64; Holds (n = n ∧ (0 : Int) = (0 : Int) ∧ (1 : Int) ≤ (1 : Int) ∧ (1 : Int) ≤ (2828427124 : Int)) ∧ ∀ (y3 : Int × Int × Int), let y3f0_ := Prod.fst y3; let y3f1_ := Prod.fst (Prod.snd y3); let y3s2_ := Prod.snd (Prod.snd y3); Holds (Prod.fst y3 = n ∧ y3f1_ = (0 : Int) ∧ (1 : Int) ≤ y3s2_ ∧ y3s2_ ≤ (2828427124 : Int)) → ifB (decide (w_ (Prod.snd (Prod.snd y3) * y3s2_) ≤ y3f0_)) (Holds (Prod.fst y3 = n ∧ y3f1_ = (0 : Int) ∧ (1 : Int) ≤ w_ ((2 : Int) * y3s2_) ∧ w_ ((2 : Int) * y3s2_) ≤ (2828427124 : Int)) ∧ Int.toNat ((2828427130 : Int) - w_ ((2 : Int) * y3s2_)) < Int.toNat ((2828427130 : Int) - y3s2_)) (Holds (Prod.fst y3 = y3f0_ ∧ (0 : Int) ≤ y3f1_ ∧ y3f1_ < y3s2_ ∧ y3s2_ ≤ (2828427124 : Int) ∧ y3f1_ * y3f1_ ≤ y3f0_ ∧ y3f0_ < y3s2_ * y3s2_) ∧ ∀ (y1 : Int × Int × Int), let y1f0_ := Prod.fst y1; let y1s1_ := Prod.snd y1; let y1f1_ := Prod.fst (Prod.snd y1); let y1s2_ := Prod.snd (Prod.snd y1); let A2_ := (Int.tdiv (w_ (Prod.fst y1s1_ + y1s2_)) (2 : Int)); Holds (Prod.fst y1 = y3f0_ ∧ (0 : Int) ≤ y1f1_ ∧ y1f1_ < y1s2_ ∧ y1s2_ ≤ (2828427124 : Int) ∧ y1f1_ * y1f1_ ≤ y3f0_ ∧ y3f0_ < y1s2_ * y1s2_) → ifB (decide (w_ (Prod.snd y1s1_ - y1f1_) > (1 : Int))) (ifB (decide (w_ (w_ A2_ * w_ A2_) ≤ y1f0_)) (Holds (Prod.fst y1 = y3f0_ ∧ (0 : Int) ≤ w_ A2_ ∧ w_ A2_ < y1s2_ ∧ y1s2_ ≤ (2828427124 : Int) ∧ w_ A2_ * w_ A2_ ≤ y3f0_ ∧ y3f0_ < y1s2_ * y1s2_) ∧ Int.toNat (Prod.snd y1s1_ - w_ A2_) < Int.toNat (Prod.snd y1s1_ - y1f1_)) (Holds (Prod.fst y1 = y3f0_ ∧ (0 : Int) ≤ y1f1_ ∧ y1f1_ < w_ A2_ ∧ w_ A2_ ≤ (2828427124 : Int) ∧ y1f1_ * y1f1_ ≤ y3f0_ ∧ y3f0_ < w_ A2_ * w_ A2_) ∧ Int.toNat (w_ A2_ - y1f1_) < Int.toNat (Prod.snd y1s1_ - y1f1_))) (Q (SV.int IntKind.i64 y1f1_) []))) := by kernel_rfl

theorem ok_l1Root : FsOk Tryz.prog 246 fs_l1Root := fsOk_of tt_ok tabFs_nil mixed Tryz.func246 (by kernel_rfl) (by kernel_rfl) (by
    intro args LL p r HH h hp
    unfold fs_l1Root at h
    dsimp only at h
    split at h
    case h_2 => cases h
    rename_i n
    simp only [Option.some.injEq, Prod.mk.injEq] at h
    obtain ⟨rfl, rfl, rfl⟩ := h
    refine ⟨by simp [Form, stays], (L_l1Root), ?_⟩
    rw [vc_l1Root]
    try dsimp only
    obtain ⟨hn0, hn1⟩ := hp _ rfl
    refine ⟨⟨(by trivial), (by trivial), by omega, by omega⟩, ?_⟩
    rintro ⟨n', low, high⟩ ⟨h⟩
    dsimp only at h ⊢
    obtain ⟨rfl, rfl, h0, h1⟩ := h
    have sq := sq_le (x := high) (y := 2828427124) (by omega) h1
    have sq0 := sq_le (x := 1) (y := high) (by omega) h0
    have w : IntKind.i64.wrap (high * high) = high * high := wrap_small (by omega) (by omega)
    rw [w]
    refine ifB_of (fun c => ?_) (fun c => ?_)
    · have c := of_decide_eq_true c
      have : high ≤ 1414213562 := by
        rcases Int.lt_or_le 1414213562 high with q | q
        · have := sq_le (x := 1414213563) (y := high) (by omega) (by omega)
          omega
        · exact q
      have w2 : IntKind.i64.wrap (2 * high) = 2 * high := wrap_small (by omega) (by omega)
      rw [w2]
      exact ⟨⟨(by trivial), (by trivial), by omega, by omega⟩, by omega⟩
    · have c := of_decide_eq_false c
      refine ⟨⟨(by trivial), by omega, by omega, by omega, by omega, by omega⟩, ?_⟩
      rintro ⟨n'', low, high⟩ ⟨h⟩
      dsimp only at h ⊢
      obtain ⟨rfl, g0, g1, g2, g3, g4⟩ := h
      have w1 : IntKind.i64.wrap (high - low) = high - low := wrap_small (by omega) (by omega)
      have w2 : IntKind.i64.wrap (low + high) = low + high := wrap_small (by omega) (by omega)
      have w3 := Int.tdiv_eq_ediv_of_nonneg (b := 2) (show 0 ≤ low + high by omega)
      have w4 : IntKind.i64.wrap ((low + high) / 2) = (low + high) / 2 := wrap_small (by omega) (by omega)
      rw [w1, w2, w3, w4]
      have m0 : 0 ≤ (low + high) / 2 := by omega
      have m1 : (low + high) / 2 ≤ 2828427124 := by omega
      have sqm := sq_le m0 m1
      have sqm0 : 0 ≤ (low + high) / 2 * ((low + high) / 2) := Int.mul_nonneg m0 m0
      have w5 : IntKind.i64.wrap ((low + high) / 2 * ((low + high) / 2)) = (low + high) / 2 * ((low + high) / 2) := wrap_small (by omega) (by omega)
      rw [w5]
      refine ifB_of (fun c2 => ?_) (fun c2 => ?_)
      · have c2 := of_decide_eq_true c2
        refine ifB_of (fun c3 => ?_) (fun c3 => ?_)
        · have c3 := of_decide_eq_true c3
          exact ⟨⟨(by trivial), by omega, by omega, by omega, c3, g4⟩, by omega⟩
        · have c3 := of_decide_eq_false c3
          exact ⟨⟨(by trivial), by omega, by omega, by omega, g3, by omega⟩, by omega⟩
      · have c2 := of_decide_eq_false c2
        have e : high = low + 1 := by omega
        subst e
        rw [rootI_eq ⟨g0, g3, g4⟩]
        exact ⟨rfl, rfl⟩)

theorem clampV_le (v : Vec) : (-1000000000 ≤ (clampV 1000000000 v).X ∧ (clampV 1000000000 v).X ≤ 1000000000) ∧ (-1000000000 ≤ (clampV 1000000000 v).Y ∧ (clampV 1000000000 v).Y ≤ 1000000000) := by
  simp only [clampV, clampTo]
  omega
theorem sq_abs {x m : Int} (h0 : -m ≤ x) (h1 : x ≤ m) : 0 ≤ x * x ∧ x * x ≤ m * m := by
  rcases Int.le_total 0 x with h | h
  · exact ⟨Int.mul_nonneg h h, sq_le h h1⟩
  · have := sq_le (x := -x) (y := m) (by omega) (by omega)
    rw [Int.neg_mul_neg] at this
    have h2 := Int.mul_nonneg (show 0 ≤ -x by omega) (show 0 ≤ -x by omega)
    rw [Int.neg_mul_neg] at h2
    exact ⟨h2, this⟩
theorem square_clamp (v : Vec) : square (clampV 1000000000 v) = (clampV 1000000000 v).X * (clampV 1000000000 v).X + (clampV 1000000000 v).Y * (clampV 1000000000 v).Y ∧ 0 ≤ square (clampV 1000000000 v) ∧ square (clampV 1000000000 v) ≤ 2000000000000000000 := by
  obtain ⟨⟨a1, a2⟩, b1, b2⟩ := clampV_le v
  have h1 := sq_abs a1 a2
  have h2 := sq_abs b1 b2
  unfold square
  rw [show W ((clampV 1000000000 v).X * (clampV 1000000000 v).X) = _ from wrap_small (by omega) (by omega), show W ((clampV 1000000000 v).Y * (clampV 1000000000 v).Y) = _ from wrap_small (by omega) (by omega), show W (_ + _) = _ from wrap_small (by omega) (by omega)]
  omega
noncomputable def vecLen (a : Vec) : Int := clampTo 1000000000 (rootI (square (clampV 1000000000 a)))
noncomputable def vecUnit (a : Vec) : Vec :=
  if vecLen (clampV 1000000000 a) = 0 then ⟨0, 256⟩
  else ⟨W ((W ((clampV 1000000000 a).X * 256)).tdiv (vecLen (clampV 1000000000 a))), W ((W ((clampV 1000000000 a).Y * 256)).tdiv (vecLen (clampV 1000000000 a)))⟩
noncomputable def fs_specVecLen : Fs := ⟨[], fun args H => match args, H with
  | [.agg [.int .i64 aX, .int .i64 aY]], [] => some (none, .int .i64 (vecLen (Vec.mk aX aY)), [])
  | _, _ => none⟩

theorem vc_specVecLen (aX : Int) (aY : Int) (Q : SV → List Ent → Prop) :
    fnVC tt (look [(245, fs_specFixClamp), (246, fs_l1Root), (197, fs_l2Square), (224, fs_l2Clamp)]) L0 Tryz.f225 [.agg [.int .i64 aX, .int .i64 aY]] [] Q =
    (((0 : Int) ≤ square (clampV (1000000000 : Int) (Vec.mk aX aY)) ∧ square (clampV (1000000000 : Int) (Vec.mk aX aY)) ≤ (2000000000000000000 : Int)) ∧ Q (SV.int IntKind.i64 (clampTo (1000000000 : Int) (rootI (square (clampV (1000000000 : Int) (Vec.mk aX aY)))))) []) := by kernel_rfl

theorem ok_specVecLen : FsOk Tryz.prog 225 fs_specVecLen := fsOk_of tt_ok (tabFs_cons ok_specFixClamp (tabFs_cons ok_l1Root (tabFs_cons ok_l2Square (tabFs_cons ok_l2Clamp tabFs_nil)))) mixed Tryz.func225 (by kernel_rfl) (by kernel_rfl) (by
    intro args LL p r HH h hp
    unfold fs_specVecLen at h
    dsimp only at h
    split at h
    case h_2 => cases h
    rename_i aX aY
    simp only [Option.some.injEq, Prod.mk.injEq] at h
    obtain ⟨rfl, rfl, rfl⟩ := h
    refine ⟨by simp [Form, stays], L0, ?_⟩
    rw [vc_specVecLen]
    try dsimp only
    have := square_clamp ⟨aX, aY⟩
    exact ⟨⟨this.2.1, this.2.2⟩, rfl, rfl⟩)

noncomputable def fs_specVecUnit : Fs := ⟨[], fun args H => match args, H with
  | [.agg [.int .i64 aX, .int .i64 aY]], [] => some (none, .agg [.int .i64 (vecUnit (Vec.mk aX aY)).X, .int .i64 (vecUnit (Vec.mk aX aY)).Y], [])
  | _, _ => none⟩

theorem vc_specVecUnit (aX : Int) (aY : Int) (Q : SV → List Ent → Prop) :
    fnVC tt (look [(224, fs_l2Clamp), (225, fs_specVecLen)]) L0 Tryz.f184 [.agg [.int .i64 aX, .int .i64 aY]] [] Q =
    (ifB (vecLen (clampV (1000000000 : Int) (Vec.mk aX aY)) == (0 : Int)) (Q (SV.agg [SV.int IntKind.i64 (0 : Int), SV.int IntKind.i64 (256 : Int)]) []) (vecLen (clampV (1000000000 : Int) (Vec.mk aX aY)) ≠ (0 : Int) ∧ vecLen (clampV (1000000000 : Int) (Vec.mk aX aY)) ≠ (0 : Int) ∧ Q (SV.agg [SV.int IntKind.i64 (IntKind.wrap IntKind.i64 (Int.tdiv (IntKind.wrap IntKind.i64 (Vec.X (clampV (1000000000 : Int) (Vec.mk aX aY)) * (256 : Int))) (vecLen (clampV (1000000000 : Int) (Vec.mk aX aY))))), SV.int IntKind.i64 (IntKind.wrap IntKind.i64 (Int.tdiv (IntKind.wrap IntKind.i64 (Vec.Y (clampV (1000000000 : Int) (Vec.mk aX aY)) * (256 : Int))) (vecLen (clampV (1000000000 : Int) (Vec.mk aX aY)))))]) [])) := by kernel_rfl

theorem ok_specVecUnit : FsOk Tryz.prog 184 fs_specVecUnit := fsOk_of tt_ok (tabFs_cons ok_l2Clamp (tabFs_cons ok_specVecLen tabFs_nil)) mixed Tryz.func184 (by kernel_rfl) (by kernel_rfl) (by
    intro args LL p r HH h hp
    unfold fs_specVecUnit at h
    dsimp only at h
    split at h
    case h_2 => cases h
    rename_i aX aY
    simp only [Option.some.injEq, Prod.mk.injEq] at h
    obtain ⟨rfl, rfl, rfl⟩ := h
    refine ⟨by simp [Form, stays], L0, ?_⟩
    rw [vc_specVecUnit]
    try dsimp only
    unfold vecUnit
    refine ifB_of (fun c => ?_) (fun c => ?_)
    · have c : vecLen (clampV 1000000000 ⟨aX, aY⟩) = 0 := by simpa using c
      rw [if_pos c]
      exact ⟨rfl, rfl⟩
    · have c : ¬ vecLen (clampV 1000000000 ⟨aX, aY⟩) = 0 := by simpa using c
      rw [if_neg c]
      exact ⟨c, c, rfl, rfl⟩)


noncomputable def roundsF (d : Vec) (both : Int) : Hit × Bool :=
  if square d > W (both * both) then (⟨⟨0, 0⟩, 0⟩, false) else (⟨vecUnit d, W (both - vecLen d)⟩, true)
noncomputable def fs_l5Rounds : Fs := ⟨[], fun args H => match args, H with
  | [.agg [.int .i64 aX, .int .i64 aY], .agg [.int .i64 bX, .int .i64 bY], .int .i64 m], [] => some (none, .tup [.agg [.int .i64 ((roundsF (minus (Vec.mk bX bY) (Vec.mk aX aY)) m).1).Way.X, .int .i64 ((roundsF (minus (Vec.mk bX bY) (Vec.mk aX aY)) m).1).Way.Y, .int .i64 ((roundsF (minus (Vec.mk bX bY) (Vec.mk aX aY)) m).1).Deep], .bool ((roundsF (minus (Vec.mk bX bY) (Vec.mk aX aY)) m).2)], [])
  | _, _ => none⟩

theorem vc_l5Rounds (aX : Int) (aY : Int) (bX : Int) (bY : Int) (m : Int) (Q : SV → List Ent → Prop) :
    fnVC tt (look [(197, fs_l2Square), (184, fs_specVecUnit), (225, fs_specVecLen)]) L0 Tryz.f238 [.agg [.int .i64 aX, .int .i64 aY], .agg [.int .i64 bX, .int .i64 bY], .int .i64 m] [] Q =
    (ifB (decide (square (Vec.mk (IntKind.wrap IntKind.i64 (bX - aX)) (IntKind.wrap IntKind.i64 (bY - aY))) > IntKind.wrap IntKind.i64 (m * m))) (Q (SV.tup [SV.agg [SV.int IntKind.i64 (0 : Int), SV.int IntKind.i64 (0 : Int), SV.int IntKind.i64 (0 : Int)], SV.bool false]) []) (Q (SV.tup [SV.agg [SV.int IntKind.i64 (Vec.X (vecUnit (Vec.mk (IntKind.wrap IntKind.i64 (bX - aX)) (IntKind.wrap IntKind.i64 (bY - aY))))), SV.int IntKind.i64 (Vec.Y (vecUnit (Vec.mk (IntKind.wrap IntKind.i64 (bX - aX)) (IntKind.wrap IntKind.i64 (bY - aY))))), SV.int IntKind.i64 (IntKind.wrap IntKind.i64 (m - vecLen (Vec.mk (IntKind.wrap IntKind.i64 (bX - aX)) (IntKind.wrap IntKind.i64 (bY - aY)))))], SV.bool true]) [])) := by kernel_rfl

theorem ok_l5Rounds : FsOk Tryz.prog 238 fs_l5Rounds := fsOk_of tt_ok (tabFs_cons ok_l2Square (tabFs_cons ok_specVecUnit (tabFs_cons ok_specVecLen tabFs_nil))) mixed Tryz.func238 (by kernel_rfl) (by kernel_rfl) (by
    intro args LL p r HH h hp
    unfold fs_l5Rounds at h
    dsimp only at h
    split at h
    case h_2 => cases h
    rename_i aX aY bX bY m
    simp only [Option.some.injEq, Prod.mk.injEq] at h
    obtain ⟨rfl, rfl, rfl⟩ := h
    refine ⟨by simp [Form, stays], L0, ?_⟩
    rw [vc_l5Rounds]
    try dsimp only
    unfold roundsF
    refine ifB_of (fun c => ?_) (fun c => ?_)
    · have c : square (minus ⟨bX, bY⟩ ⟨aX, aY⟩) > W (m * m) := of_decide_eq_true c
      rw [if_pos c]
      exact ⟨rfl, rfl⟩
    · have c : ¬ square (minus ⟨bX, bY⟩ ⟨aX, aY⟩) > W (m * m) := of_decide_eq_false c
      rw [if_neg c]
      exact ⟨rfl, rfl⟩)

def less2 (best h : Hit) : Hit := bif decide (h.Deep < best.Deep) then h else best
def boxesF (a b : Box) : Hit × Bool :=
  bif boxMeets a b then (less2 (less2 (less2 ⟨⟨256, 0⟩, W (a.High.X - b.Low.X)⟩ ⟨⟨-256, 0⟩, W (b.High.X - a.Low.X)⟩) ⟨⟨0, 256⟩, W (a.High.Y - b.Low.Y)⟩) ⟨⟨0, -256⟩, W (b.High.Y - a.Low.Y)⟩, true)
  else (⟨⟨0, 0⟩, 0⟩, false)
noncomputable def fs_l5Boxes : Fs := ⟨[], fun args H => match args, H with
  | [.agg [.int .i64 aLX, .int .i64 aLY, .int .i64 aHX, .int .i64 aHY], .agg [.int .i64 bLX, .int .i64 bLY, .int .i64 bHX, .int .i64 bHY]], [] => some (none, .tup [.agg [.int .i64 ((boxesF (Box.mk (Vec.mk aLX aLY) (Vec.mk aHX aHY)) (Box.mk (Vec.mk bLX bLY) (Vec.mk bHX bHY))).1).Way.X, .int .i64 ((boxesF (Box.mk (Vec.mk aLX aLY) (Vec.mk aHX aHY)) (Box.mk (Vec.mk bLX bLY) (Vec.mk bHX bHY))).1).Way.Y, .int .i64 ((boxesF (Box.mk (Vec.mk aLX aLY) (Vec.mk aHX aHY)) (Box.mk (Vec.mk bLX bLY) (Vec.mk bHX bHY))).1).Deep], .bool ((boxesF (Box.mk (Vec.mk aLX aLY) (Vec.mk aHX aHY)) (Box.mk (Vec.mk bLX bLY) (Vec.mk bHX bHY))).2)], [])
  | _, _ => none⟩

theorem vc_l5Boxes (aLX : Int) (aLY : Int) (aHX : Int) (aHY : Int) (bLX : Int) (bLY : Int) (bHX : Int) (bHY : Int) (Q : SV → List Ent → Prop) :
    fnVC tt (look [(121, fs_l3Meets)]) L0 Tryz.f239 [.agg [.int .i64 aLX, .int .i64 aLY, .int .i64 aHX, .int .i64 aHY], .agg [.int .i64 bLX, .int .i64 bLY, .int .i64 bHX, .int .i64 bHY]] [] Q =
    (ifB (!boxMeets (Box.mk (Vec.mk aLX aLY) (Vec.mk aHX aHY)) (Box.mk (Vec.mk bLX bLY) (Vec.mk bHX bHY))) (Q (SV.tup [SV.agg [SV.int IntKind.i64 (0 : Int), SV.int IntKind.i64 (0 : Int), SV.int IntKind.i64 (0 : Int)], SV.bool false]) []) (ifB (decide (IntKind.wrap IntKind.i64 (bHX - aLX) < IntKind.wrap IntKind.i64 (aHX - bLX))) (ifB (decide (IntKind.wrap IntKind.i64 (aHY - bLY) < IntKind.wrap IntKind.i64 (bHX - aLX))) (ifB (decide (IntKind.wrap IntKind.i64 (bHY - aLY) < IntKind.wrap IntKind.i64 (aHY - bLY))) (Q (SV.tup [SV.agg [SV.int IntKind.i64 (0 : Int), SV.int IntKind.i64 (-256 : Int), SV.int IntKind.i64 (IntKind.wrap IntKind.i64 (bHY - aLY))], SV.bool true]) []) (Q (SV.tup [SV.agg [SV.int IntKind.i64 (0 : Int), SV.int IntKind.i64 (256 : Int), SV.int IntKind.i64 (IntKind.wrap IntKind.i64 (aHY - bLY))], SV.bool true]) [])) (ifB (decide (IntKind.wrap IntKind.i64 (bHY - aLY) < IntKind.wrap IntKind.i64 (bHX - aLX))) (Q (SV.tup [SV.agg [SV.int IntKind.i64 (0 : Int), SV.int IntKind.i64 (-256 : Int), SV.int IntKind.i64 (IntKind.wrap IntKind.i64 (bHY - aLY))], SV.bool true]) []) (Q (SV.tup [SV.agg [SV.int IntKind.i64 (-256 : Int), SV.int IntKind.i64 (0 : Int), SV.int IntKind.i64 (IntKind.wrap IntKind.i64 (bHX - aLX))], SV.bool true]) []))) (ifB (decide (IntKind.wrap IntKind.i64 (aHY - bLY) < IntKind.wrap IntKind.i64 (aHX - bLX))) (ifB (decide (IntKind.wrap IntKind.i64 (bHY - aLY) < IntKind.wrap IntKind.i64 (aHY - bLY))) (Q (SV.tup [SV.agg [SV.int IntKind.i64 (0 : Int), SV.int IntKind.i64 (-256 : Int), SV.int IntKind.i64 (IntKind.wrap IntKind.i64 (bHY - aLY))], SV.bool true]) []) (Q (SV.tup [SV.agg [SV.int IntKind.i64 (0 : Int), SV.int IntKind.i64 (256 : Int), SV.int IntKind.i64 (IntKind.wrap IntKind.i64 (aHY - bLY))], SV.bool true]) [])) (ifB (decide (IntKind.wrap IntKind.i64 (bHY - aLY) < IntKind.wrap IntKind.i64 (aHX - bLX))) (Q (SV.tup [SV.agg [SV.int IntKind.i64 (0 : Int), SV.int IntKind.i64 (-256 : Int), SV.int IntKind.i64 (IntKind.wrap IntKind.i64 (bHY - aLY))], SV.bool true]) []) (Q (SV.tup [SV.agg [SV.int IntKind.i64 (256 : Int), SV.int IntKind.i64 (0 : Int), SV.int IntKind.i64 (IntKind.wrap IntKind.i64 (aHX - bLX))], SV.bool true]) []))))) := by kernel_rfl

theorem ok_l5Boxes : FsOk Tryz.prog 239 fs_l5Boxes := fsOk_of tt_ok (tabFs_cons ok_l3Meets tabFs_nil) mixed Tryz.func239 (by kernel_rfl) (by kernel_rfl) (by
    intro args LL p r HH h hp
    unfold fs_l5Boxes at h
    dsimp only at h
    split at h
    case h_2 => cases h
    rename_i aLX aLY aHX aHY bLX bLY bHX bHY
    simp only [Option.some.injEq, Prod.mk.injEq] at h
    obtain ⟨rfl, rfl, rfl⟩ := h
    refine ⟨by simp [Form, stays], L0, ?_⟩
    rw [vc_l5Boxes]
    try dsimp only
    refine ifB_of (fun c => ?_) (fun c => ?_)
    · simp [boxesF, not_true c]
    have c := not_false c
    simp only [boxesF, c, cond_true]
    refine ifB_of (fun c1 => ?_) (fun c1 => ?_)
    all_goals refine ifB_of (fun c2 => ?_) (fun c2 => ?_)
    all_goals refine ifB_of (fun c3 => ?_) (fun c3 => ?_)
    all_goals
      simp only [less2]
      simp only [c1, c2, c3, cond_true, cond_false]
      first | exact ⟨rfl, rfl⟩ | exact ⟨(by trivial), (by trivial)⟩)

def nearV (b : Box) (p : Vec) : Vec := ⟨max b.Low.X (min p.X b.High.X), max b.Low.Y (min p.Y b.High.Y)⟩
noncomputable def fs_l3Near : Fs := ⟨[], fun args H => match args, H with
  | [.agg [.int .i64 bLX, .int .i64 bLY, .int .i64 bHX, .int .i64 bHY], .agg [.int .i64 pX, .int .i64 pY]], [] => some ((some (bLX ≤ bHX ∧ bLY ≤ bHY)), .agg [.int .i64 (nearV (Box.mk (Vec.mk bLX bLY) (Vec.mk bHX bHY)) (Vec.mk pX pY)).X, .int .i64 (nearV (Box.mk (Vec.mk bLX bLY) (Vec.mk bHX bHY)) (Vec.mk pX pY)).Y], [])
  | _, _ => none⟩

theorem vc_l3Near (bLX : Int) (bLY : Int) (bHX : Int) (bHY : Int) (pX : Int) (pY : Int) (Q : SV → List Ent → Prop) :
    fnVC tt (look [(213, fs_l3Less), (237, fs_l3More)]) L0 Tryz.f253 [.agg [.int .i64 bLX, .int .i64 bLY, .int .i64 bHX, .int .i64 bHY], .agg [.int .i64 pX, .int .i64 pY]] [] Q =
    (Q (SV.agg [SV.int IntKind.i64 (min (max pX bLX) bHX), SV.int IntKind.i64 (min (max pY bLY) bHY)]) []) := by kernel_rfl

theorem ok_l3Near : FsOk Tryz.prog 253 fs_l3Near := fsOk_of tt_ok (tabFs_cons ok_l3Less (tabFs_cons ok_l3More tabFs_nil)) mixed Tryz.func253 (by kernel_rfl) (by kernel_rfl) (by
    intro args LL p r HH h hp
    unfold fs_l3Near at h
    dsimp only at h
    split at h
    case h_2 => cases h
    rename_i bLX bLY bHX bHY pX pY
    simp only [Option.some.injEq, Prod.mk.injEq] at h
    obtain ⟨rfl, rfl, rfl⟩ := h
    refine ⟨by simp [Form, stays], L0, ?_⟩
    rw [vc_l3Near]
    try dsimp only
    obtain ⟨h1, h2⟩ := hp _ rfl
    have e1 : min (max pX bLX) bHX = max bLX (min pX bHX) := by omega
    have e2 : min (max pY bLY) bHY = max bLY (min pY bHY) := by omega
    simp only [nearV, e1, e2, and_self])

noncomputable def mixedF (b : Box) (p : Vec) (w : Int) : Hit × Bool :=
  bif hasPoint b p then (⟨(boxesF b ⟨p, p⟩).1.Way, W ((boxesF b ⟨p, p⟩).1.Deep + w)⟩, (boxesF b ⟨p, p⟩).2) else roundsF (minus p (nearV b p)) w
noncomputable def fs_l5Mixed : Fs := ⟨[], fun args H => match args, H with
  | [.agg [.int .i64 bLX, .int .i64 bLY, .int .i64 bHX, .int .i64 bHY], .agg [.int .i64 pX, .int .i64 pY], .int .i64 w], [] => some ((some (bLX ≤ bHX ∧ bLY ≤ bHY)), .tup [.agg [.int .i64 ((mixedF (Box.mk (Vec.mk bLX bLY) (Vec.mk bHX bHY)) (Vec.mk pX pY) w).1).Way.X, .int .i64 ((mixedF (Box.mk (Vec.mk bLX bLY) (Vec.mk bHX bHY)) (Vec.mk pX pY) w).1).Way.Y, .int .i64 ((mixedF (Box.mk (Vec.mk bLX bLY) (Vec.mk bHX bHY)) (Vec.mk pX pY) w).1).Deep], .bool ((mixedF (Box.mk (Vec.mk bLX bLY) (Vec.mk bHX bHY)) (Vec.mk pX pY) w).2)], [])
  | _, _ => none⟩

theorem vc_l5Mixed (bLX : Int) (bLY : Int) (bHX : Int) (bHY : Int) (pX : Int) (pY : Int) (w : Int) (Q : SV → List Ent → Prop) :
    fnVC tt (look [(196, fs_l3Point), (239, fs_l5Boxes), (253, fs_l3Near), (238, fs_l5Rounds)]) L0 Tryz.f240 [.agg [.int .i64 bLX, .int .i64 bLY, .int .i64 bHX, .int .i64 bHY], .agg [.int .i64 pX, .int .i64 pY], .int .i64 w] [] Q =
    (ifB (hasPoint (Box.mk (Vec.mk bLX bLY) (Vec.mk bHX bHY)) (Vec.mk pX pY)) (Q (SV.tup [SV.agg [SV.int IntKind.i64 (Vec.X (Hit.Way (Prod.fst (boxesF (Box.mk (Vec.mk bLX bLY) (Vec.mk bHX bHY)) (Box.mk (Vec.mk pX pY) (Vec.mk pX pY)))))), SV.int IntKind.i64 (Vec.Y (Hit.Way (Prod.fst (boxesF (Box.mk (Vec.mk bLX bLY) (Vec.mk bHX bHY)) (Box.mk (Vec.mk pX pY) (Vec.mk pX pY)))))), SV.int IntKind.i64 (IntKind.wrap IntKind.i64 (Hit.Deep (Prod.fst (boxesF (Box.mk (Vec.mk bLX bLY) (Vec.mk bHX bHY)) (Box.mk (Vec.mk pX pY) (Vec.mk pX pY)))) + w))], SV.bool (Prod.snd (boxesF (Box.mk (Vec.mk bLX bLY) (Vec.mk bHX bHY)) (Box.mk (Vec.mk pX pY) (Vec.mk pX pY))))]) []) ((bLX ≤ bHX ∧ bLY ≤ bHY) ∧ Q (SV.tup [SV.agg [SV.int IntKind.i64 (Vec.X (Hit.Way (Prod.fst (roundsF (minus (Vec.mk pX pY) (nearV (Box.mk (Vec.mk bLX bLY) (Vec.mk bHX bHY)) (Vec.mk pX pY))) w)))), SV.int IntKind.i64 (Vec.Y (Hit.Way (Prod.fst (roundsF (minus (Vec.mk pX pY) (nearV (Box.mk (Vec.mk bLX bLY) (Vec.mk bHX bHY)) (Vec.mk pX pY))) w)))), SV.int IntKind.i64 (Hit.Deep (Prod.fst (roundsF (minus (Vec.mk pX pY) (nearV (Box.mk (Vec.mk bLX bLY) (Vec.mk bHX bHY)) (Vec.mk pX pY))) w)))], SV.bool (Prod.snd (roundsF (minus (Vec.mk pX pY) (nearV (Box.mk (Vec.mk bLX bLY) (Vec.mk bHX bHY)) (Vec.mk pX pY))) w))]) [])) := by kernel_rfl

theorem ok_l5Mixed : FsOk Tryz.prog 240 fs_l5Mixed := fsOk_of tt_ok (tabFs_cons ok_l3Point (tabFs_cons ok_l5Boxes (tabFs_cons ok_l3Near (tabFs_cons ok_l5Rounds tabFs_nil)))) mixed Tryz.func240 (by kernel_rfl) (by kernel_rfl) (by
    intro args LL p r HH h hp
    unfold fs_l5Mixed at h
    dsimp only at h
    split at h
    case h_2 => cases h
    rename_i bLX bLY bHX bHY pX pY w
    simp only [Option.some.injEq, Prod.mk.injEq] at h
    obtain ⟨rfl, rfl, rfl⟩ := h
    refine ⟨by simp [Form, stays], L0, ?_⟩
    rw [vc_l5Mixed]
    try dsimp only
    have hb := hp _ rfl
    refine ifB_of (fun c => ?_) (fun c => ⟨hb, ?_⟩)
    · have c : hasPoint ⟨⟨bLX, bLY⟩, ⟨bHX, bHY⟩⟩ ⟨pX, pY⟩ = true := c
      simp only [mixedF, c, cond_true]
      exact ⟨(by trivial), (by trivial)⟩
    · have c : hasPoint ⟨⟨bLX, bLY⟩, ⟨bHX, bHY⟩⟩ ⟨pX, pY⟩ = false := c
      simp only [mixedF, c, cond_false]
      exact ⟨(by trivial), (by trivial)⟩)

def turnH (h : Hit) : Hit := ⟨⟨W (0 - h.Way.X), W (0 - h.Way.Y)⟩, h.Deep⟩
noncomputable def fs_l5Turn : Fs := ⟨[], fun args H => match args, H with
  | [.agg [.int .i64 hX, .int .i64 hY, .int .i64 hD]], [] => some (none, .agg [.int .i64 (turnH (Hit.mk (Vec.mk hX hY) hD)).Way.X, .int .i64 (turnH (Hit.mk (Vec.mk hX hY) hD)).Way.Y, .int .i64 (turnH (Hit.mk (Vec.mk hX hY) hD)).Deep], [])
  | _, _ => none⟩

theorem vc_l5Turn (hX : Int) (hY : Int) (hD : Int) (Q : SV → List Ent → Prop) :
    fnVC tt (look []) L0 Tryz.f241 [.agg [.int .i64 hX, .int .i64 hY, .int .i64 hD]] [] Q =
    (Q (SV.agg [SV.int IntKind.i64 (IntKind.wrap IntKind.i64 ((0 : Int) - hX)), SV.int IntKind.i64 (IntKind.wrap IntKind.i64 ((0 : Int) - hY)), SV.int IntKind.i64 hD]) []) := by kernel_rfl

theorem ok_l5Turn : FsOk Tryz.prog 241 fs_l5Turn := fsOk_of tt_ok tabFs_nil mixed Tryz.func241 (by kernel_rfl) (by kernel_rfl) (by
    intro args LL p r HH h hp
    unfold fs_l5Turn at h
    dsimp only at h
    split at h
    case h_2 => cases h
    rename_i hX hY hD
    simp only [Option.some.injEq, Prod.mk.injEq] at h
    obtain ⟨rfl, rfl, rfl⟩ := h
    refine ⟨by simp [Form, stays], L0, ?_⟩
    rw [vc_l5Turn]
    try dsimp only

    repeat' (first | refine ifB_of (fun _ => ?_) (fun _ => ?_) | refine pre_of ?_ (fun _ => ?_))
    all_goals first
      | rfl
      | (simp only [W, turnH, *, cond_true, cond_false, Bool.true_and, Bool.false_and, Bool.and_true, Bool.and_false, Bool.not_true, Bool.not_false, and_self, true_and]; done)
      | (simp_all [W, turnH]; done)
      | (simp_all [W, turnH] <;> omega))

noncomputable def touchF (a : Shape) (p : Vec) (b : Shape) (q : Vec) : Hit × Bool :=
  bif a.Kind == 1 && b.Kind == 1 then roundsF (minus q p) (W (a.Wide + b.Wide))
  else bif a.Kind == 2 && b.Kind == 2 then boxesF (bounds a p) (bounds b q)
  else bif a.Kind == 2 then mixedF (bounds a p) q b.Wide
  else bif (mixedF (bounds b q) p a.Wide).2 then (turnH (mixedF (bounds b q) p a.Wide).1, true) else (⟨⟨0, 0⟩, 0⟩, false)
theorem shapeOk_le {s : Shape} (h : shapeOk s = true) : 1 ≤ s.Wide ∧ s.Wide ≤ 25600 ∧ (s.Kind = 1 ∨ s.Kind = 2) ∧ (s.Kind = 2 → 1 ≤ s.High ∧ s.High ≤ 25600) := by
  unfold shapeOk at h
  split at h
  · rename_i k
    simp only [isIn, Bool.and_eq_true, decide_eq_true_eq] at h
    exact ⟨h.1.1, h.1.2, .inl k, fun e => by omega⟩
  · split at h
    · rename_i k
      simp only [isIn, Bool.and_eq_true, decide_eq_true_eq] at h
      exact ⟨h.1.1, h.1.2, .inr k, fun _ => h.2⟩
    · cases h
theorem placeOk_le {p : Vec} (h : placeOk p = true) : -2560000 ≤ p.X ∧ p.X ≤ 2560000 ∧ -2560000 ≤ p.Y ∧ p.Y ≤ 2560000 := by
  simp only [placeOk, isIn, Bool.and_eq_true, decide_eq_true_eq] at h
  omega
/-- How high a shape is on each side of its middle. -/
def highOf (s : Shape) : Int := bif s.Kind == 1 then s.Wide else s.High
theorem bounds_eq {s : Shape} {p : Vec} (h : shapeOk s = true) (hp : placeOk p = true) : bounds s p = ⟨⟨p.X - s.Wide, p.Y - highOf s⟩, ⟨p.X + s.Wide, p.Y + highOf s⟩⟩ ∧ 1 ≤ highOf s ∧ highOf s ≤ 25600 := by
  obtain ⟨h1, h2, h3, h4⟩ := shapeOk_le h
  obtain ⟨p1, p2, p3, p4⟩ := placeOk_le hp
  unfold bounds highOf
  rcases h3 with k | k
  · simp only [k, beq_self_eq_true, cond_true]
    refine ⟨?_, by omega, by omega⟩
    rw [show W (p.X - s.Wide) = _ from wrap_small (by omega) (by omega), show W (p.Y - s.Wide) = _ from wrap_small (by omega) (by omega), show W (p.X + s.Wide) = _ from wrap_small (by omega) (by omega), show W (p.Y + s.Wide) = _ from wrap_small (by omega) (by omega)]
  · have h4 := h4 k
    have e : ((2 : Int) == 1) = false := rfl
    simp only [k, e, cond_false]
    refine ⟨?_, by omega, by omega⟩
    rw [show W (p.X - s.Wide) = _ from wrap_small (by omega) (by omega), show W (p.Y - s.High) = _ from wrap_small (by omega) (by omega), show W (p.X + s.Wide) = _ from wrap_small (by omega) (by omega), show W (p.Y + s.High) = _ from wrap_small (by omega) (by omega)]
theorem bounds_le {s : Shape} {p : Vec} (h : shapeOk s = true) (hp : placeOk p = true) : (bounds s p).Low.X ≤ (bounds s p).High.X ∧ (bounds s p).Low.Y ≤ (bounds s p).High.Y := by
  obtain ⟨e, h1, h2⟩ := bounds_eq h hp
  have := shapeOk_le h
  rw [e]
  simp only
  omega
noncomputable def fs_l5Touch : Fs := ⟨[], fun args H => match args, H with
  | [.agg [.int .i64 aK, .int .i64 aW, .int .i64 aH], .agg [.int .i64 pX, .int .i64 pY], .agg [.int .i64 bK, .int .i64 bW, .int .i64 bH], .agg [.int .i64 qX, .int .i64 qY]], [] => some ((some (shapeOk (Shape.mk aK aW aH) = true ∧ placeOk (Vec.mk pX pY) = true ∧ shapeOk (Shape.mk bK bW bH) = true ∧ placeOk (Vec.mk qX qY) = true)), .tup [.agg [.int .i64 ((touchF (Shape.mk aK aW aH) (Vec.mk pX pY) (Shape.mk bK bW bH) (Vec.mk qX qY)).1).Way.X, .int .i64 ((touchF (Shape.mk aK aW aH) (Vec.mk pX pY) (Shape.mk bK bW bH) (Vec.mk qX qY)).1).Way.Y, .int .i64 ((touchF (Shape.mk aK aW aH) (Vec.mk pX pY) (Shape.mk bK bW bH) (Vec.mk qX qY)).1).Deep], .bool ((touchF (Shape.mk aK aW aH) (Vec.mk pX pY) (Shape.mk bK bW bH) (Vec.mk qX qY)).2)], [])
  | _, _ => none⟩

theorem vc_l5Touch (aK : Int) (aW : Int) (aH : Int) (pX : Int) (pY : Int) (bK : Int) (bW : Int) (bH : Int) (qX : Int) (qY : Int) (Q : SV → List Ent → Prop) :
    fnVC tt (look [(238, fs_l5Rounds), (239, fs_l5Boxes), (122, fs_l3Bounds), (240, fs_l5Mixed), (241, fs_l5Turn)]) L0 Tryz.f212 [.agg [.int .i64 aK, .int .i64 aW, .int .i64 aH], .agg [.int .i64 pX, .int .i64 pY], .agg [.int .i64 bK, .int .i64 bW, .int .i64 bH], .agg [.int .i64 qX, .int .i64 qY]] [] Q =
    (let s_ := SV.int IntKind.i64; let A5_ := (roundsF (minus (Vec.mk qX qY) (Vec.mk pX pY)) (IntKind.wrap IntKind.i64 (aW + bW))); let A2_ := (bounds (Shape.mk bK bW bH) (Vec.mk qX qY)); let A3_ := (turnH (Prod.fst (mixedF A2_ (Vec.mk pX pY) aW))); let A1_ := (bounds (Shape.mk aK aW aH) (Vec.mk pX pY)); let A4_ := (Prod.fst (mixedF A1_ (Vec.mk qX qY) bW)); ifB (aK == (1 : Int)) (ifB (bK == (1 : Int)) (Q (SV.tup [SV.agg [s_ (Vec.X (Hit.Way (Prod.fst A5_))), s_ (Vec.Y (Hit.Way (Prod.fst A5_))), s_ (Hit.Deep (Prod.fst A5_))], SV.bool (Prod.snd A5_)]) []) (ifB (aK == (2 : Int)) (ifB (bK == (2 : Int)) (Q (SV.tup [SV.agg [s_ (Vec.X (Hit.Way (Prod.fst (boxesF A1_ A2_)))), s_ (Vec.Y (Hit.Way (Prod.fst (boxesF A1_ A2_)))), s_ (Hit.Deep (Prod.fst (boxesF A1_ A2_)))], SV.bool (Prod.snd (boxesF A1_ A2_))]) []) (ifB (aK == (2 : Int)) ((Vec.X (Box.Low A1_) ≤ Vec.X (Box.High A1_) ∧ Vec.Y (Box.Low A1_) ≤ Vec.Y (Box.High A1_)) ∧ Q (SV.tup [SV.agg [s_ (Vec.X (Hit.Way A4_)), s_ (Vec.Y (Hit.Way A4_)), s_ (Hit.Deep A4_)], SV.bool (Prod.snd (mixedF A1_ (Vec.mk qX qY) bW))]) []) ((Vec.X (Box.Low A2_) ≤ Vec.X (Box.High A2_) ∧ Vec.Y (Box.Low A2_) ≤ Vec.Y (Box.High A2_)) ∧ ifB (!Prod.snd (mixedF A2_ (Vec.mk pX pY) aW)) (Q (SV.tup [SV.agg [s_ (0 : Int), s_ (0 : Int), s_ (0 : Int)], SV.bool false]) []) (Q (SV.tup [SV.agg [s_ (Vec.X (Hit.Way A3_)), s_ (Vec.Y (Hit.Way A3_)), s_ (Hit.Deep A3_)], SV.bool true]) [])))) (ifB (aK == (2 : Int)) ((Vec.X (Box.Low A1_) ≤ Vec.X (Box.High A1_) ∧ Vec.Y (Box.Low A1_) ≤ Vec.Y (Box.High A1_)) ∧ Q (SV.tup [SV.agg [s_ (Vec.X (Hit.Way A4_)), s_ (Vec.Y (Hit.Way A4_)), s_ (Hit.Deep A4_)], SV.bool (Prod.snd (mixedF A1_ (Vec.mk qX qY) bW))]) []) ((Vec.X (Box.Low A2_) ≤ Vec.X (Box.High A2_) ∧ Vec.Y (Box.Low A2_) ≤ Vec.Y (Box.High A2_)) ∧ ifB (!Prod.snd (mixedF A2_ (Vec.mk pX pY) aW)) (Q (SV.tup [SV.agg [s_ (0 : Int), s_ (0 : Int), s_ (0 : Int)], SV.bool false]) []) (Q (SV.tup [SV.agg [s_ (Vec.X (Hit.Way A3_)), s_ (Vec.Y (Hit.Way A3_)), s_ (Hit.Deep A3_)], SV.bool true]) []))))) (ifB (aK == (2 : Int)) (ifB (bK == (2 : Int)) (Q (SV.tup [SV.agg [s_ (Vec.X (Hit.Way (Prod.fst (boxesF A1_ A2_)))), s_ (Vec.Y (Hit.Way (Prod.fst (boxesF A1_ A2_)))), s_ (Hit.Deep (Prod.fst (boxesF A1_ A2_)))], SV.bool (Prod.snd (boxesF A1_ A2_))]) []) (ifB (aK == (2 : Int)) ((Vec.X (Box.Low A1_) ≤ Vec.X (Box.High A1_) ∧ Vec.Y (Box.Low A1_) ≤ Vec.Y (Box.High A1_)) ∧ Q (SV.tup [SV.agg [s_ (Vec.X (Hit.Way A4_)), s_ (Vec.Y (Hit.Way A4_)), s_ (Hit.Deep A4_)], SV.bool (Prod.snd (mixedF A1_ (Vec.mk qX qY) bW))]) []) ((Vec.X (Box.Low A2_) ≤ Vec.X (Box.High A2_) ∧ Vec.Y (Box.Low A2_) ≤ Vec.Y (Box.High A2_)) ∧ ifB (!Prod.snd (mixedF A2_ (Vec.mk pX pY) aW)) (Q (SV.tup [SV.agg [s_ (0 : Int), s_ (0 : Int), s_ (0 : Int)], SV.bool false]) []) (Q (SV.tup [SV.agg [s_ (Vec.X (Hit.Way A3_)), s_ (Vec.Y (Hit.Way A3_)), s_ (Hit.Deep A3_)], SV.bool true]) [])))) (ifB (aK == (2 : Int)) ((Vec.X (Box.Low A1_) ≤ Vec.X (Box.High A1_) ∧ Vec.Y (Box.Low A1_) ≤ Vec.Y (Box.High A1_)) ∧ Q (SV.tup [SV.agg [s_ (Vec.X (Hit.Way A4_)), s_ (Vec.Y (Hit.Way A4_)), s_ (Hit.Deep A4_)], SV.bool (Prod.snd (mixedF A1_ (Vec.mk qX qY) bW))]) []) ((Vec.X (Box.Low A2_) ≤ Vec.X (Box.High A2_) ∧ Vec.Y (Box.Low A2_) ≤ Vec.Y (Box.High A2_)) ∧ ifB (!Prod.snd (mixedF A2_ (Vec.mk pX pY) aW)) (Q (SV.tup [SV.agg [s_ (0 : Int), s_ (0 : Int), s_ (0 : Int)], SV.bool false]) []) (Q (SV.tup [SV.agg [s_ (Vec.X (Hit.Way A3_)), s_ (Vec.Y (Hit.Way A3_)), s_ (Hit.Deep A3_)], SV.bool true]) []))))) := by kernel_rfl

theorem ok_l5Touch : FsOk Tryz.prog 212 fs_l5Touch := fsOk_of tt_ok (tabFs_cons ok_l5Rounds (tabFs_cons ok_l5Boxes (tabFs_cons ok_l3Bounds (tabFs_cons ok_l5Mixed (tabFs_cons ok_l5Turn tabFs_nil))))) mixed Tryz.func212 (by kernel_rfl) (by kernel_rfl) (by
    intro args LL p r HH h hp
    unfold fs_l5Touch at h
    dsimp only at h
    split at h
    case h_2 => cases h
    rename_i aK aW aH pX pY bK bW bH qX qY
    simp only [Option.some.injEq, Prod.mk.injEq] at h
    obtain ⟨rfl, rfl, rfl⟩ := h
    refine ⟨by simp [Form, stays], L0, ?_⟩
    rw [vc_l5Touch]
    try dsimp only
    obtain ⟨ha, hp', hb, hq⟩ := hp _ rfl
    have la := bounds_le ha hp'
    have lb := bounds_le hb hq
    unfold touchF
    repeat' (first | refine ifB_of (fun c => ?_) (fun c => ?_) | refine pre_of (by first | exact la | exact lb) (fun _ => ?_) | fail)
    all_goals
      clear la lb ha hb hq hp'
      simp only [Bool.not_eq_true', Bool.not_eq_false'] at *
      first
        | (simp only [*, cond_true, cond_false, Bool.true_and, Bool.false_and, Bool.and_true, Bool.and_false, and_self, true_and]; done)
        | (exfalso; simp_all; done)
        | (exfalso; simp_all; omega))

noncomputable def touchAll (a : Shape) (p : Vec) (b : Shape) (q : Vec) : Hit × Bool :=
  bif shapeOk a && shapeOk b && placeOk p && placeOk q then touchF a p b q else (⟨⟨0, 0⟩, 0⟩, false)

end Go.Proofs.YtdhbkcaaijgocaaGreat.Sym

